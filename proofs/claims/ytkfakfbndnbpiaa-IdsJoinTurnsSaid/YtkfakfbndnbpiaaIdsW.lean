/- The reference's Above, Turns, JoinTurns. -/
import Derived.Test.YtkfakfbndnbpiaaIdsV
import Derived.Test.YtkfakfbndnbpiaaTurnQ
namespace Go.Proofs.Ytkfakfbndnbpiaa
open Go.RowKit Go.Ev Go.Ids

theorem nS_cell {m : World} {M : List Nat} {A : Option Addr} {n c : Nat} {l : List Nat} (h : Sl m M 1 (.slice A n c) (nC l)) (k : Nat) (hk : k < l.length) : ∃ ad, A = some ad ∧ m.cell? (ad.add (k * 1)) = some (.int .u64 l[k]) := by
  obtain ⟨hl, _⟩ := Sl.len h
  rw [nC_len] at hl
  obtain ⟨ad, rfl, _, hc⟩ := Sl.addr h (by omega)
  refine ⟨ad, rfl, ?_⟩
  rw [Nat.mul_one]
  exact hc _ _ (nC_get l k hk)
theorem nS_at {m : World} {M : List Nat} {ad : Addr} {n c : Nat} {l : List Nat} (h : Sl m M 1 (.slice (some ad) n c) (nC l)) (k : Nat) (hk : k < l.length) : m.cell? (ad.add (k * 1)) = some (.int .u64 l[k]) := by
  obtain ⟨_, h1, h2⟩ := nS_cell h k hk
  cases h1; exact h2
/-- The form of what is above. -/
def AForm (rs than L : List Trn) : Prop := TCanon L ∧ (∀ c k, turnOf L c k = aboveOf rs than c k) ∧ L.length ≤ rs.length * (2 * (rs.length + than.length))
theorem AForm.unique {rs than L L' : List Trn} (h : AForm rs than L) (h' : AForm rs than L') : L = L' := tcanon_unique h.1 h'.1 fun c k => by rw [h.2.1, h'.2.1]
theorem pairs_step (rs than : List Trn) (c : Nat) (R : List Trn) (M : List Nat) (k : Nat) (h : k + 1 < M.length) : pairsA rs than c R (M.drop k) = pairsA rs than c (stepA rs than R c M[k] M[k + 1]) (M.drop (k + 1)) := by
  rw [List.drop_eq_getElem_cons (show k < M.length by omega), List.drop_eq_getElem_cons h]
  rfl
theorem pairs_end (rs than : List Trn) (c : Nat) (R : List Trn) (M : List Nat) (k : Nat) (h : ¬ k + 1 < M.length) : pairsA rs than c R (M.drop k) = R := by
  have h1 : (M.drop k).length ≤ 1 := by rw [List.length_drop]; omega
  match M.drop k, h1 with
  | [], _ => rfl
  | [_], _ => rfl
theorem step_len (rs than R : List Trn) (c a b : Nat) : (stepA rs than R c a b).length ≤ R.length + 1 := by
  unfold stepA
  split
  · omega
  · exact tj_len _ _
/-- Does a piece go on where the last one ended? -/
def jn (R : List Trn) (x : Trn) : Bool := match R with
  | y :: _ => decide (y.c = x.c) && (decide (y.t = x.f) && decide (y.n = x.n))
  | [] => false
theorem jn_true {R : List Trn} {x : Trn} (h : jn R x = true) : ∃ y r, R = y :: r ∧ tj R x = { y with t := x.t } :: r := by
  cases R with
  | nil => cases h
  | cons y r =>
    simp only [jn, Bool.and_eq_true, decide_eq_true_eq] at h
    exact ⟨y, r, rfl, by rw [tj_cons, if_pos h]⟩
theorem jn_false {R : List Trn} {x : Trn} (h : jn R x = false) : tj R x = x :: R := by
  cases R with
  | nil => rfl
  | cons y r =>
    rw [tj_cons, if_neg]
    intro hh
    rw [show jn (y :: r) x = true by simp [jn, hh]] at h
    cases h
/-- What stands between two clients. -/
structure AbI (rs than : List Trn) (cs : List Nat) (W i : Nat) (R : List Trn) : Prop where
  canon : TCanonR R
  told : ∀ c k, turnOf R c k = if c ∈ cs.take i then aboveOf rs than c k else 0
  behind : ∀ y ∈ R, ∀ c ∈ cs.drop i, y.c < c
  len : R.length ≤ i * W
theorem AbI.next {rs than : List Trn} {cs M : List Nat} {W i : Nat} {R : List Trn} (h : AbI rs than cs W i R) (hi : i < cs.length) (hs : cs.Pairwise (· < ·)) (hc : 1 ≤ cs[i] ∧ cs[i] ≤ 9007199254740991) (hM : EdgesOf rs than cs[i] M)
    (hl : (pairsA rs than cs[i] R M).length ≤ R.length + W) : AbI rs than cs W (i + 1) (pairsA rs than cs[i] R M) := by
  obtain ⟨p1, p2, p3⟩ := client_spec hc hM h.canon (fun y hy => h.behind y hy _ (by rw [List.drop_eq_getElem_cons hi]; exact List.mem_cons_self ..))
  refine ⟨p1, fun c k => ?_, fun y hy c hc => ?_, ?_⟩
  · rw [p2, h.told, List.take_succ_eq_append_getElem hi]
    by_cases h1 : cs[i] = c
    · rw [if_pos h1, if_pos (List.mem_append_right _ (by simp [h1]))]
      split <;> omega
    · rw [if_neg h1]
      by_cases h2 : c ∈ cs.take i
      · rw [if_pos h2, if_pos (List.mem_append_left _ h2)]; omega
      · rw [if_neg h2, if_neg (fun hh => (List.mem_append.1 hh).elim h2 (fun h3 => h1 (by simpa using h3 : c = cs[i]).symm))]; omega
  · have h1 := p3 y hy
    have h2 : cs[i] < c := by
      have := List.pairwise_iff_getElem.1 hs
      obtain ⟨j, hj, rfl⟩ := List.mem_iff_getElem.1 hc
      rw [List.length_drop] at hj
      rw [List.getElem_drop]
      exact this i (i + 1 + j) hi (by omega) (by omega)
    omega
  · have := h.len
    rw [Nat.succ_mul]; omega
theorem edges_of {rs than : List Trn} {c : Nat} {M : List Nat} (hp : M.Pairwise (· < ·)) (hM : ∀ z, z ∈ M ↔ edge (rs ++ than) c z) : EdgesOf rs than c M := by
  refine ⟨hp, fun z hz => ?_, fun x hx h1 h2 => ⟨(hM _).2 ⟨x, hx, h1, h2, .inl rfl⟩, (hM _).2 ⟨x, hx, h1, h2, .inr rfl⟩⟩⟩
  obtain ⟨x, _, h1, _, h3⟩ := (hM z).1 hz
  have := tright_iff.1 h1
  rcases h3 with h3 | h3 <;> omega
set_option maxHeartbeats 1000000 in
theorem refabove_c (m : World) (v u : Value) (rs than : List Trn) (h : Ts m [] v rs) (h' : Ts m [] u than) (hla : rs.length + than.length < 100000000) (hl : rs.length * (2 * (rs.length + than.length)) < 100000000) :
    FnR Try.prog 55 [v, u] m fun r m' => ∃ L, AForm rs than L ∧ TMade m r L m' := by
  obtain ⟨A, cA, rfl, _, _⟩ := h.shape
  obtain ⟨B, cB, rfl, _, _⟩ := h'.shape
  refine FnE.enter ⟨_, Try.func55, by kernel_rfl, by kernel_rfl⟩ Try.func55 rfl rfl ?_
  repeat (first | with_reducible refine WP.seq ?_ | with_reducible refine WP.block ?_ | with_reducible refine WP.region ?_)
  refine RL.auto T_ok rfl ?_
  refine RL.nil ?_; repeat (first | with_reducible refine QN.block_normal ?_ | with_reducible refine QN.next ?_); repeat (first | with_reducible refine WP.seq ?_ | with_reducible refine WP.block ?_ | with_reducible refine WP.region ?_)
  refine RL.auto T_ok rfl ?_
  refine RL.nil ?_; repeat (first | with_reducible refine QN.block_normal ?_ | with_reducible refine QN.next ?_); repeat (first | with_reducible refine WP.seq ?_ | with_reducible refine WP.block ?_ | with_reducible refine WP.region ?_)
  refine RL.auto T_ok rfl ?_
  refine RL.call (fi := []) (ca := []) rfl rfl rfl rfl (clients_c m _ rs h (by omega)) ?_
  rintro vc m1 ⟨cs, Sc, hOc, hNc, hsc, hmc, hlc⟩
  refine ⟨_, rfl, ?_⟩
  obtain ⟨AC, cC, rfl, _⟩ := hOc.shape
  have hSc : Sl m1 [] 1 (.slice AC cs.length cC) (nC cs) := hOc.sl (by simp)
  replace h := h.ext0 hNc.1
  replace h' := h'.ext0 hNc.1
  have hE1 := hNc.1
  clear hOc hNc
  have hcr : ∀ c ∈ cs, 1 ≤ c ∧ c ≤ 9007199254740991 := fun c hc => by
    obtain ⟨x, _, h1, h2⟩ := (hmc c).1 hc
    have := tright_iff.1 h1
    omega
  refine RL.auto T_ok rfl ?_
  refine RL.nil ?_; repeat (first | with_reducible refine QN.block_normal ?_ | with_reducible refine QN.next ?_); repeat (first | with_reducible refine WP.seq ?_ | with_reducible refine WP.block ?_ | with_reducible refine WP.region ?_)
  refine RL.auto T_ok rfl ?_
  refine RL.nil ?_; repeat (first | with_reducible refine QN.block_normal ?_ | with_reducible refine QN.next ?_); repeat (first | with_reducible refine WP.seq ?_ | with_reducible refine WP.block ?_ | with_reducible refine WP.region ?_)
  generalize hW : 2 * (rs.length + than.length) = W at hl
  refine (WP.loop (X := Nat × Value × List Nat × List Trn) (fun q => [(0, .slice A rs.length cA), (1, .slice B than.length cB), (5, q.2.1), (6, .slice AC cs.length cC), (7, .int .i64 q.1)])
    (fun q m' => q.1 ≤ cs.length ∧ Ev.Own m' q.2.2.1 101 4 q.2.1 q.2.2.2.length (q.2.2.2.reverse.flatMap tC) ∧ New m1 q.2.2.1 m' ∧ AbI rs than cs W q.1 q.2.2.2) (fun q => cs.length - q.1) (0, .slice none 0 0, [], [])
    (Sub.cons rfl (Sub.cons rfl (Sub.cons rfl (Sub.cons rfl (Sub.cons rfl Sub.nil))))) ⟨by simp, Own.empty _ _ _ _, ⟨Ext.refl _ _, FpNew.nil _ _⟩, ⟨⟨(fun _ hh => by cases hh), List.Pairwise.nil⟩, (fun c k => by simp [turnOf]), (fun _ hh => by cases hh), by simp⟩⟩ ?_)
  rintro ⟨i, ov, S, R⟩ m2 ⟨hi, hO, hN, hI⟩
  simp only at hi hO hN hI
  repeat (first | with_reducible refine WP.seq ?_ | with_reducible refine WP.block ?_ | with_reducible refine WP.region ?_)
  refine RL.auto T_ok rfl ?_
  refine RL.nil ?_; repeat (first | with_reducible refine QN.block_normal ?_ | with_reducible refine QN.next ?_); repeat (first | with_reducible refine WP.seq ?_ | with_reducible refine WP.block ?_ | with_reducible refine WP.region ?_)
  refine WP.cond rfl (fun hc => ?_) (fun hc => ?_)
  · replace hc : i < cs.length := by have := of_decide_eq_true hc; simp only at this; omega
    obtain ⟨adc, rfl, _⟩ := nS_cell hSc i hc
    have hiW : i * W + W ≤ rs.length * W := by rw [← Nat.succ_mul]; exact Nat.mul_le_mul_right _ (by omega)
    have hRl := hI.len
    obtain ⟨c, hce⟩ : ∃ c, cs[i] = c := ⟨_, rfl⟩
    have hcc : ∀ m', Ext m1 [] m' → m'.cell? (adc.add (i * 1)) = some (.int .u64 c) := fun m' hE => by
      rw [← hce]
      exact nS_at (Sl.ext hSc hE (M' := []) (by simp) (by omega)) i hc
    refine WP.skip ?_; repeat (first | with_reducible refine QN.block_normal ?_ | with_reducible refine QN.next ?_)
    refine WP.seq ?_
    refine WP.block ?_
    refine WP.seq ?_
    have hA2 : Ts m2 [] (.slice A rs.length cA) rs := h.ext0 hN.1
    have hB2 : Ts m2 [] (.slice B than.length cB) than := h'.ext0 hN.1
    refine WP.drawQ (fun m' => Ext m2 [] m') [] (by kernel_rfl) (Ext.refl _ _) (by repeat (first | with_reducible exact PanicOk.body | with_reducible refine PanicOk.then_ ?_ | with_reducible refine PanicOk.block_ ?_)) (fun hQ => ?_)
    refine RH.pure T_ok hQ [0, 2, 4, 5] (by kernel_rfl) rfl ?_
    refine RH.indexAddr T_ok hQ 6 (k := i) rfl (by kernel_rfl) rfl rfl rfl rfl rfl rfl rfl hc rfl ?_
    refine RH.load T_ok hQ 7 (fun m' hm' => hcc m' (hN.1.trans hm' (by simp))) rfl (by kernel_rfl) rfl rfl rfl rfl ?_
    refine RH.only 1 rfl (by kernel_rfl) (fun _ => ?_)
    have hSa : Sl m2 [] 4 (.slice A rs.length cA) (rs.flatMap tC) := hA2
    refine RL.append T_ok (Own.empty _ _ _ _) (rs.flatMap tC) (Src.of_sl hSa) rfl rfl rfl rfl rfl (tsC_len rs) (tsC_one rs) (by unfold maxLen; omega) (by show (0 + _) * 32 ≤ _; omega) ?_
    intro v3 m3 S3 hO3 hE3 hF3
    refine ⟨_, rfl, RL.nil (RH.cont hE3 ?_)⟩
    have hSb : Sl m3 [] 4 (.slice B than.length cB) (than.flatMap tC) := hB2.ext0 hE3
    have hN3 : New m2 S3 m3 := ⟨hE3, hF3⟩
    refine RH.only 3 rfl (by kernel_rfl) (fun _ => ?_)
    refine RL.append T_ok hO3 (than.flatMap tC) (Src.of_sl hSb) rfl rfl rfl rfl rfl (tsC_len than) (tsC_one than) (by unfold maxLen; omega) (by show (0 + _ + _) * 32 ≤ _; omega) ?_
    intro v4 m4 S4 hO4 hE4 hF4
    have hE24 : Ext m2 [] m4 := hE3.trans hE4 (fun k hk => .inr (hN3.ge k hk))
    refine ⟨_, rfl, RL.nil (RH.cont hE24 ?_)⟩
    have hR4 : Ts m4 [] v4 (rs ++ than) := by
      have h9 := hO4.sl (M := []) (by simp)
      rw [List.nil_append, tsC_app] at h9
      exact h9
    refine RH.only 8 rfl (by kernel_rfl) (fun _ => ?_)
    refine RL.call (fi := []) (ca := []) rfl rfl rfl rfl (edges_c m4 v4 _ c hR4 (by rw [List.length_append]; omega)) ?_
    rintro ve m5 ⟨M, Se, hOe, hNe, hse, hme, hlm⟩
    have hE25 : Ext m2 [] m5 := hE24.trans hNe.1 (by simp)
    rw [List.length_append] at hlm
    refine ⟨_, rfl, RL.nil (RH.cont hE25 ?_)⟩
    refine RH.pure T_ok hQ [9] (by kernel_rfl) rfl ?_
    refine RH.done (by kernel_rfl) (fun _ => ?_)
    repeat (first | with_reducible refine QN.block_normal ?_ | with_reducible refine QN.next ?_)
    obtain ⟨AE, cE, rfl, _⟩ := hOe.shape
    have hdis : ∀ k ∈ Se, k ∉ S := fun k hk hh => by
      have h1 := hNe.ge k hk
      have h2 := hO.lt k hh
      have h3 := hE24.size
      omega
    have hSe5 : Sl m5 S 1 (.slice AE M.length cE) (nC M) := hOe.sl hdis
    have hO5 := hO.ext hE25 (by simp)
    have hN5 : New m1 S m5 := ⟨hN.1.trans hE25 (by simp), hN.2⟩
    have hEd : EdgesOf rs than c M := edges_of hse hme
    clear hO3 hE3 hF3 hSb hN3 hO4 hE4 hF4 hR4 hOe hNe hdis hO hN hSa hA2 hB2 hE24 hE25
    repeat (first | with_reducible refine WP.seq ?_ | with_reducible refine WP.block ?_ | with_reducible refine WP.region ?_)
    refine RL.auto T_ok rfl ?_
    refine RL.nil ?_; repeat (first | with_reducible refine QN.block_normal ?_ | with_reducible refine QN.next ?_); repeat (first | with_reducible refine WP.seq ?_ | with_reducible refine WP.block ?_ | with_reducible refine WP.region ?_)
    refine (WP.loop (X := Nat × Value × List Nat × List Trn) (fun q => [(0, .slice A rs.length cA), (1, .slice B than.length cB), (5, q.2.1), (6, .slice (some adc) cs.length cC), (7, .int .i64 i), (8, .slice AE M.length cE), (9, .int .i64 q.1)])
      (fun q m' => q.1 ≤ M.length ∧ Ev.Own m' q.2.2.1 101 4 q.2.1 q.2.2.2.length (q.2.2.2.reverse.flatMap tC) ∧ New m1 q.2.2.1 m' ∧ Sl m' q.2.2.1 1 (.slice AE M.length cE) (nC M) ∧ pairsA rs than c q.2.2.2 (M.drop q.1) = pairsA rs than c R M ∧ q.2.2.2.length ≤ R.length + q.1) (fun q => M.length - q.1) (0, ov, S, R)
      (Sub.cons rfl (Sub.cons rfl (Sub.cons rfl (Sub.cons rfl (Sub.cons rfl (Sub.cons rfl (Sub.cons rfl Sub.nil))))))) ⟨by simp, hO5, hN5, hSe5, by simp, by simp⟩ ?_)
    clear hO5 hN5 hSe5
    rintro ⟨k, ow, S, Rk⟩ m2 ⟨hk, hO, hN, hSe, hP, hkl⟩
    simp only at hk hO hN hSe hP hkl
    repeat (first | with_reducible refine WP.seq ?_ | with_reducible refine WP.block ?_ | with_reducible refine WP.region ?_)
    refine RL.pure T_ok 2 rfl ?_
    refine RL.eqv (v' := .int .i64 ((k + 1 : Nat) : Int)) (congrArg _ (by rw [wrap_i64_in _ (by omega) (by omega)]; rfl)) ?_
    refine RL.auto T_ok rfl ?_
    refine RL.nil ?_; repeat (first | with_reducible refine QN.block_normal ?_ | with_reducible refine QN.next ?_); repeat (first | with_reducible refine WP.seq ?_ | with_reducible refine WP.block ?_ | with_reducible refine WP.region ?_)
    refine WP.cond rfl (fun hck => ?_) (fun hck => ?_)
    · replace hck : k + 1 < M.length := by have := of_decide_eq_true hck; omega
      have hst := pairs_step rs than c Rk M k hck
      have hslen := step_len rs than Rk c M[k] M[k + 1]
      obtain ⟨ade, rfl, _⟩ := nS_cell hSe k (by omega)
      obtain ⟨a, hae⟩ : ∃ a, M[k] = a := ⟨_, rfl⟩
      obtain ⟨b, hbe⟩ : ∃ b, M[k + 1] = b := ⟨_, rfl⟩
      have hca : ∀ {m' S'}, Sl m' S' 1 (.slice (some ade) M.length cE) (nC M) → m'.cell? (ade.add (k * 1)) = some (.int .u64 a) := fun hs => by rw [← hae]; exact nS_at hs k (by omega)
      have hcb : ∀ {m' S'}, Sl m' S' 1 (.slice (some ade) M.length cE) (nC M) → m'.cell? (ade.add ((k + 1) * 1)) = some (.int .u64 b) := fun hs => by rw [← hbe]; exact nS_at hs (k + 1) hck
      rw [hae, hbe] at hst hslen
      refine WP.skip ?_; repeat (first | with_reducible refine QN.block_normal ?_ | with_reducible refine QN.next ?_)
      refine WP.seq ?_
      refine WP.block ?_
      refine WP.seq ?_
      refine WP.drawQ (fun m' => Ext m2 [] m') [] (by kernel_rfl) (Ext.refl _ _) (by repeat (first | with_reducible exact PanicOk.body | with_reducible refine PanicOk.then_ ?_ | with_reducible refine PanicOk.block_ ?_)) (fun hQ => ?_)
      refine RH.pure T_ok hQ [0, 1] (by kernel_rfl) rfl ?_
      refine RH.indexAddr T_ok hQ 2 (k := i) rfl (by kernel_rfl) rfl rfl rfl rfl rfl rfl rfl hc rfl ?_
      refine RH.load T_ok hQ 3 (fun m' hm' => hcc m' (hN.1.trans hm' (by simp))) rfl (by kernel_rfl) rfl rfl rfl rfl ?_
      refine RH.pure T_ok hQ [4, 5] (by kernel_rfl) rfl ?_
      refine RH.indexAddr T_ok hQ 6 (k := k) rfl (by kernel_rfl) rfl rfl rfl rfl rfl rfl rfl (by omega) rfl ?_
      refine RH.load T_ok hQ 7 (fun m' hm' => hca (hSe.ext (hm'.mono (by simp)) (M' := S) (fun k hk => .inl hk) (by omega))) rfl (by kernel_rfl) rfl rfl rfl rfl ?_
      refine RH.pure T_ok hQ [8] (by kernel_rfl) rfl ?_
      refine RH.only 9 rfl (by kernel_rfl) (fun _ => ?_)
      refine RL.alloc T_ok rfl rfl (fun b3 m3 hb3 hC3 => ⟨_, rfl, ?_⟩)
      have hE3 : Ext m2 [] m3 := hC3.new (by omega)
      refine RL.nil (RH.cont hE3 ?_)
      refine RH.only 10 rfl (by kernel_rfl) (fun _ => ?_)
      refine RL.storeAgg T_ok (b := b3) (i := 0) (vs := iC ⟨c, a⟩) (cs := [.int .u64 0, .int .u64 0]) hC3.blk rfl rfl rfl rfl rfl (by simp) (by simp [iC, Value.oneCell']) rfl ?_
      intro m4 hC4
      have hE4 : Ext m2 [] m4 := hE3.trans hC4.ext (fun q hq => .inr (by have h9 : q = b3 := (by simpa using hq); omega))
      have hB4 : Blk m4 b3 48 (iC ⟨c, a⟩) := hC4.blk
      refine RL.nil (RH.cont hE4 ?_)
      refine RH.done (by kernel_rfl) (fun _ => ?_)
      repeat (first | with_reducible refine QN.block_normal ?_ | with_reducible refine QN.next ?_)
      have hS4 : Sl m4 S 1 (.slice (some ade) M.length cE) (nC M) := hSe.ext (hE4.mono (by simp)) (fun k hk => .inl hk) (by omega)
      have hO4 := hO.ext hE4 (by simp)
      have hN4 : New m1 S m4 := ⟨hN.1.trans hE4 (by simp), hN.2⟩
      clear hC3 hC4 hE3 hO hN hSe
      repeat (first | with_reducible refine WP.seq ?_ | with_reducible refine WP.block ?_ | with_reducible refine WP.region ?_)
      refine RL.pure T_ok 1 rfl ?_
      refine RL.loadAgg T_ok (iC ⟨c, a⟩) rfl rfl rfl (fun j u hu => by rw [add_block]; exact hB4.cell _ (by simpa using hu)) rfl ?_
      refine RL.call (fi := []) (ca := []) rfl rfl rfl rfl (refturnOf_c m4 _ rs (h.ext0 hN4.1) (by omega) ⟨c, a⟩) ?_
      rintro _ m5 ⟨rfl, hE5⟩
      refine ⟨_, rfl, ?_⟩
      replace hB4 := hB4.ext hE5 (by simp)
      replace hS4 := hS4.ext (hE5.mono (by simp)) (M' := S) (fun k hk => .inl hk) (by omega)
      replace hO4 := hO4.ext hE5 (by simp)
      replace hN4 : New m1 S m5 := ⟨hN4.1.trans hE5 (by simp), hN4.2⟩
      refine RL.auto T_ok rfl ?_
      refine RL.nil ?_; repeat (first | with_reducible refine QN.block_normal ?_ | with_reducible refine QN.next ?_); repeat (first | with_reducible refine WP.seq ?_ | with_reducible refine WP.block ?_ | with_reducible refine WP.region ?_)
      refine RL.pure T_ok 2 rfl ?_
      refine RL.loadAgg T_ok (iC ⟨c, a⟩) rfl rfl rfl (fun j u hu => by rw [add_block]; exact hB4.cell _ (by simpa using hu)) rfl ?_
      refine RL.call (fi := []) (ca := []) rfl rfl rfl rfl (refturnOf_c m5 _ than (h'.ext0 hN4.1) (by omega) ⟨c, a⟩) ?_
      rintro _ m6 ⟨rfl, hE6⟩
      refine ⟨_, rfl, ?_⟩
      replace hS4 := hS4.ext (hE6.mono (by simp)) (M' := S) (fun k hk => .inl hk) (by omega)
      replace hO4 := hO4.ext hE6 (by simp)
      replace hN4 : New m1 S m6 := ⟨hN4.1.trans hE6 (by simp), hN4.2⟩
      clear hE5 hE6 hE4 hB4
      refine RL.pure T_ok 1 rfl ?_
      by_cases hle : turnOf rs c a ≤ turnOf than c a
      · refine RL.eqv (v' := .bool true) (congrArg _ (decide_eq_true (by simp only; omega))) ?_
        refine RL.nil ?_; repeat (first | with_reducible refine QN.block_normal ?_ | with_reducible refine QN.next ?_); repeat (first | with_reducible refine WP.seq ?_ | with_reducible refine WP.block ?_ | with_reducible refine WP.region ?_)
        refine WP.condT rfl ?_
        refine WP.exit ?_; repeat (first | with_reducible refine QN.then_exit ?_ | with_reducible refine QN.block_exit ?_ | with_reducible refine QN.block_far rfl ?_ | with_reducible refine QN.block_normal ?_ | with_reducible refine QN.next ?_); repeat (first | with_reducible refine WP.seq ?_ | with_reducible refine WP.block ?_ | with_reducible refine WP.region ?_)
        refine RL.pure T_ok 2 rfl ?_
        refine RL.eqv (v' := .int .i64 ((k + 1 : Nat) : Int)) (congrArg _ (by rw [wrap_i64_in _ (by omega) (by omega)]; rfl)) ?_
        refine RL.auto T_ok rfl ?_
        have he : stepA rs than Rk c a b = Rk := if_pos hle
        rw [he] at hst
        exact RL.nil (QN.round (k + 1, ow, S, Rk) (Sub.cons rfl (Sub.cons rfl (Sub.cons rfl (Sub.cons rfl (Sub.cons rfl (Sub.cons rfl (Sub.cons rfl Sub.nil))))))) ⟨by show k + 1 ≤ _; omega, hO4, hN4, hS4, hst.symm.trans hP, by show Rk.length ≤ R.length + (k + 1); omega⟩ (by show _ - (k + 1) < _ - k; omega))
      refine RL.eqv (v' := .bool false) (congrArg _ (decide_eq_false (by simp only; omega))) ?_
      refine RL.nil ?_; repeat (first | with_reducible refine QN.block_normal ?_ | with_reducible refine QN.next ?_); repeat (first | with_reducible refine WP.seq ?_ | with_reducible refine WP.block ?_ | with_reducible refine WP.region ?_)
      refine WP.condF rfl ?_
      refine WP.skip ?_; repeat (first | with_reducible refine QN.block_normal ?_ | with_reducible refine QN.next ?_); repeat (first | with_reducible refine WP.seq ?_ | with_reducible refine WP.block ?_ | with_reducible refine WP.region ?_)
      have hse2 : stepA rs than Rk c a b = tj Rk ⟨c, a, b, turnOf rs c a⟩ := if_neg hle
      rw [hse2] at hst hslen
      generalize turnOf rs c a = n at hst hslen hle
      obtain ⟨AO, cO, rfl, _⟩ := hO4.shape
      refine RL.auto T_ok rfl ?_
      refine RL.nil ?_; repeat (first | with_reducible refine QN.block_normal ?_ | with_reducible refine QN.next ?_)
      refine WP.cut (X := Bool) (fun p => [(0, .slice A rs.length cA), (1, .slice B than.length cB), (5, .slice AO Rk.length cO), (6, .slice (some adc) cs.length cC), (7, .int .i64 i), (8, .slice (some ade) M.length cE), (9, .int .i64 k), (11, .int .u64 n), (12, .int .i64 Rk.length), (93, .bool p)])
        (fun p m' => m' = m6 ∧ p = jn Rk ⟨c, a, b, n⟩) ?_ ?_
      · cases Rk with
        | nil =>
          refine WP.drawQ (fun m' => m' = m6) [] (by kernel_rfl) rfl (by repeat (first | with_reducible exact PanicOk.body | with_reducible refine PanicOk.then_ ?_ | with_reducible refine PanicOk.block_ ?_)) (fun hQ => ?_)
          refine RH.pure T_ok hQ [0, 1, 2, 3, 4, 5, 6, 7, 8, 9, 10, 11, 12, 13, 14, 15, 16, 17, 18, 19, 20, 21, 22, 23, 24, 25, 26, 27, 28, 29, 30, 31, 32, 33, 34, 35, 36, 37] (by kernel_rfl) rfl ?_
          refine RH.done (by kernel_rfl) (fun _ => ?_)
          exact QN.cutEnd false (Sub.cons rfl (Sub.cons rfl (Sub.cons rfl (Sub.cons rfl (Sub.cons rfl (Sub.cons rfl (Sub.cons rfl (Sub.cons rfl (Sub.cons rfl (Sub.cons rfl Sub.nil)))))))))) ⟨rfl, rfl⟩
        | cons y r' =>
          have hR7 : Ts m6 [] (.slice AO (y :: r').length cO) (r'.reverse ++ [y]) := by
            have := hO4.sl (M := []) (by simp)
            rw [List.reverse_cons] at this; exact this
          obtain ⟨ad5, rfl, hy⟩ := hR7.cell r'.length (by simp)
          have hyy : (r'.reverse ++ [y])[r'.length]'(by simp) = y := by simp
          rw [hyy] at hy
          have hrl : (y :: r').length = r'.length + 1 := rfl
          refine WP.drawQ (fun m' => m' = m6) [] (by kernel_rfl) rfl (by repeat (first | with_reducible exact PanicOk.body | with_reducible refine PanicOk.then_ ?_ | with_reducible refine PanicOk.block_ ?_)) (fun hQ => ?_)
          refine RH.pure T_ok hQ [0, 1] (by kernel_rfl) rfl ?_
          refine RH.eqv (v' := .bool true) (congrArg _ (decide_eq_true (by simp only [hrl]; omega))) ?_
          refine RH.pure T_ok hQ [2, 3, 4, 5] (by kernel_rfl) rfl ?_
          refine RH.eqv (v' := .int .i64 r'.length) (congrArg _ (by show IntKind.i64.wrap (((r'.length + 1 : Nat) : Int) - 1) = r'.length; rw [wrap_i64_in _ (by omega) (by omega)]; omega)) ?_
          refine RH.indexAddr T_ok hQ 6 (k := r'.length) rfl (by kernel_rfl) rfl rfl rfl rfl rfl rfl rfl (by omega) rfl ?_
          refine RH.pure T_ok hQ [7] (by kernel_rfl) rfl ?_
          refine RH.load T_ok hQ 8 (fun m' hm' => by rw [hm']; exact hy 0 _ rfl) rfl (by kernel_rfl) rfl rfl rfl rfl ?_
          refine RH.pure T_ok hQ [9, 10] (by kernel_rfl) rfl ?_
          refine RH.indexAddr T_ok hQ 11 (k := i) rfl (by kernel_rfl) rfl rfl rfl rfl rfl rfl rfl hc rfl ?_
          refine RH.load T_ok hQ 12 (fun m' hm' => by rw [hm']; exact hcc m6 hN4.1) rfl (by kernel_rfl) rfl rfl rfl rfl ?_
          refine RH.pure T_ok hQ [13] (by kernel_rfl) rfl ?_
          by_cases h1 : y.c = c
          · refine RH.eqv (v' := .bool true) (congrArg _ (by rw [deq]; exact decide_eq_true h1)) ?_
            refine RH.pure T_ok hQ [14, 15, 16, 17, 18] (by kernel_rfl) rfl ?_
            refine RH.eqv (v' := .int .i64 r'.length) (congrArg _ (by show IntKind.i64.wrap (((r'.length + 1 : Nat) : Int) - 1) = r'.length; rw [wrap_i64_in _ (by omega) (by omega)]; omega)) ?_
            refine RH.indexAddr T_ok hQ 19 (k := r'.length) rfl (by kernel_rfl) rfl rfl rfl rfl rfl rfl rfl (by omega) rfl ?_
            refine RH.pure T_ok hQ [20] (by kernel_rfl) rfl ?_
            refine RH.load T_ok hQ 21 (fun m' hm' => by rw [hm']; exact hy 2 _ rfl) rfl (by kernel_rfl) rfl rfl rfl rfl ?_
            refine RH.pure T_ok hQ [22, 23] (by kernel_rfl) rfl ?_
            refine RH.indexAddr T_ok hQ 24 (k := k) rfl (by kernel_rfl) rfl rfl rfl rfl rfl rfl rfl (by omega) rfl ?_
            refine RH.load T_ok hQ 25 (fun m' hm' => by rw [hm']; exact hca hS4) rfl (by kernel_rfl) rfl rfl rfl rfl ?_
            refine RH.pure T_ok hQ [26] (by kernel_rfl) rfl ?_
            by_cases h2 : y.t = a
            · refine RH.eqv (v' := .bool true) (congrArg _ (by rw [deq]; exact decide_eq_true h2)) ?_
              refine RH.pure T_ok hQ [27, 28, 29, 30, 31] (by kernel_rfl) rfl ?_
              refine RH.eqv (v' := .int .i64 r'.length) (congrArg _ (by show IntKind.i64.wrap (((r'.length + 1 : Nat) : Int) - 1) = r'.length; rw [wrap_i64_in _ (by omega) (by omega)]; omega)) ?_
              refine RH.indexAddr T_ok hQ 32 (k := r'.length) rfl (by kernel_rfl) rfl rfl rfl rfl rfl rfl rfl (by omega) rfl ?_
              refine RH.pure T_ok hQ [33] (by kernel_rfl) rfl ?_
              refine RH.load T_ok hQ 34 (fun m' hm' => by rw [hm']; exact hy 3 _ rfl) rfl (by kernel_rfl) rfl rfl rfl rfl ?_
              refine RH.pure T_ok hQ [35, 36] (by kernel_rfl) rfl ?_
              refine RH.eqv (v' := .bool (decide (y.n = n))) (congrArg _ (deq _ _)) ?_
              refine RH.pure T_ok hQ [37] (by kernel_rfl) rfl ?_
              refine RH.done (by kernel_rfl) (fun _ => ?_)
              exact QN.cutEnd (decide (y.n = n)) (Sub.cons rfl (Sub.cons rfl (Sub.cons rfl (Sub.cons rfl (Sub.cons rfl (Sub.cons rfl (Sub.cons rfl (Sub.cons rfl (Sub.cons rfl (Sub.cons rfl Sub.nil)))))))))) ⟨rfl, by simp [jn, h1, h2]⟩
            · refine RH.eqv (v' := .bool false) (congrArg _ (by rw [deq]; exact decide_eq_false h2)) ?_
              refine RH.pure T_ok hQ [27, 28, 29, 30, 31, 32, 33, 34, 35, 36, 37] (by kernel_rfl) rfl ?_
              refine RH.done (by kernel_rfl) (fun _ => ?_)
              exact QN.cutEnd false (Sub.cons rfl (Sub.cons rfl (Sub.cons rfl (Sub.cons rfl (Sub.cons rfl (Sub.cons rfl (Sub.cons rfl (Sub.cons rfl (Sub.cons rfl (Sub.cons rfl Sub.nil)))))))))) ⟨rfl, by simp [jn, h2]⟩
          · refine RH.eqv (v' := .bool false) (congrArg _ (by rw [deq]; exact decide_eq_false h1)) ?_
            refine RH.pure T_ok hQ [14, 15, 16, 17, 18, 19, 20, 21, 22, 23, 24, 25, 26, 27, 28, 29, 30, 31, 32, 33, 34, 35, 36, 37] (by kernel_rfl) rfl ?_
            refine RH.done (by kernel_rfl) (fun _ => ?_)
            exact QN.cutEnd false (Sub.cons rfl (Sub.cons rfl (Sub.cons rfl (Sub.cons rfl (Sub.cons rfl (Sub.cons rfl (Sub.cons rfl (Sub.cons rfl (Sub.cons rfl (Sub.cons rfl Sub.nil)))))))))) ⟨rfl, by simp [jn, h1]⟩
      rintro p mc ⟨rfl, hp⟩
      refine WP.cond rfl (fun hpt => ?_) (fun hpf => ?_)
      · rw [hpt] at hp
        obtain ⟨y, r', rfl, htj⟩ := jn_true hp.symm
        rw [htj] at hst hslen
        have hrl : (y :: r').length = r'.length + 1 := rfl
        have hO8 : Ev.Own mc S 101 4 (.slice AO (y :: r').length cO) (y :: r').length ((r'.reverse ++ [y]).flatMap tC) := by
          have := hO4; rw [List.reverse_cons] at this; exact this
        obtain ⟨g, cap, cur, hv8, hB8, rfl, hj8, hset⟩ := hO8.putN (j := r'.length * 4 + 2) (by rw [hrl]; omega)
        injection hv8 with hv8 hv8'
        subst hv8
        repeat (first | with_reducible refine WP.seq ?_ | with_reducible refine WP.block ?_ | with_reducible refine WP.region ?_)
        refine RL.pure T_ok 3 rfl ?_
        refine RL.eqv (v' := .int .i64 r'.length) (congrArg _ (by show IntKind.i64.wrap (((r'.length + 1 : Nat) : Int) - 1) = r'.length; rw [wrap_i64_in _ (by omega) (by omega)]; omega)) ?_
        refine RL.pure T_ok 3 rfl ?_
        refine RL.eqv (v' := .int .i64 ((k + 1 : Nat) : Int)) (congrArg _ (by rw [wrap_i64_in _ (by omega) (by omega)]; rfl)) ?_
        refine RL.indexAddr (k := k + 1) T_ok rfl rfl rfl rfl rfl rfl rfl hck rfl ?_
        refine RL.load T_ok rfl rfl rfl (hcb hS4) rfl ?_
        refine RL.indexAddr (k := r'.length) T_ok rfl rfl rfl rfl rfl rfl rfl (by omega) rfl ?_
        refine RL.eqv (v' := .pointer (some ⟨g, r'.length * 4, none⟩)) (congrArg (fun q => Value.pointer (some q)) (by rw [add_block]; show (⟨g, 0 + r'.length * 4, none⟩ : Addr) = _; rw [Nat.zero_add])) ?_
        refine RL.auto T_ok rfl ?_
        refine RL.store T_ok hB8 (i := r'.length * 4 + 2) (v := .int .u64 b) hj8 rfl rfl rfl rfl rfl rfl ?_
        intro m9 hC9
        have hO9 := hset m9 _ hC9
        rw [show r'.length * 4 + 2 = r'.reverse.length * 4 + 2 by rw [List.length_reverse], tsC_setT, ← List.reverse_cons] at hO9
        have hS9 : Sl m9 [g] 1 (.slice (some ade) M.length cE) (nC M) := hS4.ext hC9.ext (fun k hk => .inl hk) (by omega)
        have hN9 : New m1 [g] m9 := ⟨hN4.1.trans hC9.ext (fun k hk => .inr (hN4.ge k hk)), hN4.2⟩
        refine RL.nil ?_; repeat (first | with_reducible refine QN.block_normal ?_ | with_reducible refine QN.next ?_); repeat (first | with_reducible refine WP.seq ?_ | with_reducible refine WP.block ?_ | with_reducible refine WP.region ?_)
        refine RL.pure T_ok 2 rfl ?_
        refine RL.eqv (v' := .int .i64 ((k + 1 : Nat) : Int)) (congrArg _ (by rw [wrap_i64_in _ (by omega) (by omega)]; rfl)) ?_
        refine RL.auto T_ok rfl ?_
        exact RL.nil (QN.round (k + 1, _, [g], { y with t := b } :: r') (Sub.cons rfl (Sub.cons rfl (Sub.cons rfl (Sub.cons rfl (Sub.cons rfl (Sub.cons rfl (Sub.cons rfl Sub.nil))))))) ⟨by show k + 1 ≤ _; omega, hO9, hN9, hS9, hst.symm.trans hP, by show (y :: r').length ≤ R.length + (k + 1); omega⟩ (by show _ - (k + 1) < _ - k; omega))
      · rw [hpf] at hp
        have htj := jn_false hp.symm
        rw [htj] at hst hslen
        refine WP.drawQ (fun m' => Ext m1 [] m' ∧ Sl m' [] 1 (.slice (some ade) M.length cE) (nC M)) [] (by kernel_rfl) ⟨hN4.1, hS4.less (by simp) (by omega)⟩ (by repeat (first | with_reducible exact PanicOk.body | with_reducible refine PanicOk.then_ ?_ | with_reducible refine PanicOk.block_ ?_)) (fun hQ => ?_)
        refine RH.pure T_ok hQ [0, 1, 2] (by kernel_rfl) rfl ?_
        refine RH.indexAddr T_ok hQ 3 (k := i) rfl (by kernel_rfl) rfl rfl rfl rfl rfl rfl rfl hc rfl ?_
        refine RH.load T_ok hQ 4 (fun m' hm' => hcc m' hm'.1) rfl (by kernel_rfl) rfl rfl rfl rfl ?_
        refine RH.pure T_ok hQ [5, 6] (by kernel_rfl) rfl ?_
        refine RH.indexAddr T_ok hQ 7 (k := k) rfl (by kernel_rfl) rfl rfl rfl rfl rfl rfl rfl (by omega) rfl ?_
        refine RH.load T_ok hQ 8 (fun m' hm' => hca hm'.2) rfl (by kernel_rfl) rfl rfl rfl rfl ?_
        refine RH.pure T_ok hQ [9, 10, 11] (by kernel_rfl) rfl ?_
        refine RH.eqv (v' := .int .i64 ((k + 1 : Nat) : Int)) (congrArg _ (by rw [wrap_i64_in _ (by omega) (by omega)]; rfl)) ?_
        refine RH.indexAddr T_ok hQ 12 (k := k + 1) rfl (by kernel_rfl) rfl rfl rfl rfl rfl rfl rfl hck rfl ?_
        refine RH.load T_ok hQ 13 (fun m' hm' => hcb hm'.2) rfl (by kernel_rfl) rfl rfl rfl rfl ?_
        refine RH.pure T_ok hQ [14, 15] (by kernel_rfl) rfl ?_
        refine RH.eqv (v' := tV ⟨c, a, b, n⟩) rfl ?_
        refine RH.only 16 rfl (by kernel_rfl) (fun _ => ?_)
        refine RL.buildSlice T_ok [.tmp 119] (us := [tV ⟨c, a, b, n⟩]) (tC ⟨c, a, b, n⟩) rfl rfl rfl rfl rfl rfl (by simp [tV, tC, Value.cells]) (by simp [tV, Value.cells]) rfl (fun b9 m9 hb9 hC9 => ⟨_, rfl, ?_⟩)
        have hE9 : Ext mc [] m9 := hC9.new (by omega)
        have hN9 : New m1 S m9 := ⟨hN4.1.trans hE9 (by simp), hN4.2⟩
        have hS9 := hS4.ext (hE9.mono (by simp)) (M' := S) (fun k hk => .inl hk) (by omega)
        refine RL.nil (RH.cont ⟨hN9.1, hS9.less (by simp) (by omega)⟩ ?_)
        refine RH.only 17 rfl (by kernel_rfl) (fun _ => ?_)
        refine RL.append T_ok (hO4.ext hE9 (by simp)) (tC ⟨c, a, b, n⟩) (Src.of_blk (k := 1) (c := 1) hC9.blk rfl) rfl rfl rfl rfl rfl rfl (tC_one _) (by unfold maxLen; omega) (by show (_ + 1) * 32 ≤ _; omega) ?_
        intro v10 m10 S10 hO10 hE10 hF10
        have hN10 : New m1 S10 m10 := ⟨hN9.1.trans hE10 (fun k hk => .inr (hN9.ge k hk)), hN9.2.trans hF10 hN9.1.size⟩
        have hS10 : Sl m10 S10 1 (.slice (some ade) M.length cE) (nC M) := hS9.ext hE10 hF10 (by omega)
        refine ⟨_, rfl, RL.nil (RH.cont ⟨hN10.1, hS10.less (by simp) (by omega)⟩ ?_)⟩
        refine RH.pure T_ok hQ [18] (by kernel_rfl) rfl ?_
        refine RH.done (by kernel_rfl) (fun _ => ?_)
        repeat (first | with_reducible refine QN.block_normal ?_ | with_reducible refine QN.next ?_)
        repeat (first | with_reducible refine WP.seq ?_ | with_reducible refine WP.block ?_ | with_reducible refine WP.region ?_)
        refine RL.pure T_ok 2 rfl ?_
        refine RL.eqv (v' := .int .i64 ((k + 1 : Nat) : Int)) (congrArg _ (by rw [wrap_i64_in _ (by omega) (by omega)]; rfl)) ?_
        refine RL.auto T_ok rfl ?_
        refine RL.nil (QN.round (k + 1, v10, S10, (⟨c, a, b, n⟩ : Trn) :: Rk) (Sub.cons rfl (Sub.cons rfl (Sub.cons rfl (Sub.cons rfl (Sub.cons rfl (Sub.cons rfl (Sub.cons rfl Sub.nil))))))) ⟨by show k + 1 ≤ _; omega, ?_, hN10, hS10, hst.symm.trans hP, by show Rk.length + 1 ≤ R.length + (k + 1); omega⟩ (by show _ - (k + 1) < _ - k; omega))
        show Ev.Own m10 S10 101 4 v10 (Rk.length + 1) (((⟨c, a, b, n⟩ : Trn) :: Rk).reverse.flatMap tC)
        rw [List.reverse_cons, ← tsC_app]
        simpa using hO10
    · replace hck : ¬ k + 1 < M.length := by have := of_decide_eq_false hck; omega
      rw [pairs_end rs than c Rk M k hck] at hP
      refine WP.exit ?_; repeat (first | with_reducible refine QN.then_exit ?_ | with_reducible refine QN.block_exit ?_ | with_reducible refine QN.block_far rfl ?_ | with_reducible refine QN.block_normal ?_ | with_reducible refine QN.next ?_); repeat (first | with_reducible refine WP.seq ?_ | with_reducible refine WP.block ?_ | with_reducible refine WP.region ?_)
      refine RL.pure T_ok 2 rfl ?_
      refine RL.eqv (v' := .int .i64 ((i + 1 : Nat) : Int)) (congrArg _ (by rw [wrap_i64_in _ (by omega) (by omega)]; rfl)) ?_
      refine RL.auto T_ok rfl ?_
      subst hce
      refine RL.nil (QN.round (i + 1, ow, S, Rk) (Sub.cons rfl (Sub.cons rfl (Sub.cons rfl (Sub.cons rfl (Sub.cons rfl Sub.nil))))) ⟨by show i + 1 ≤ _; omega, hO, hN, ?_⟩ (by show _ - (i + 1) < _ - i; omega))
      show AbI rs than cs W (i + 1) Rk
      have h9 := hI.next hc hsc (hcr _ (List.getElem_mem _)) hEd (by rw [← hP]; omega)
      rw [← hP] at h9
      exact h9
  · replace hc : i = cs.length := by have := of_decide_eq_false hc; simp only at this; omega
    subst hc
    refine WP.exit ?_; repeat (first | with_reducible refine QN.then_exit ?_ | with_reducible refine QN.block_exit ?_ | with_reducible refine QN.block_far rfl ?_ | with_reducible refine QN.block_normal ?_ | with_reducible refine QN.next ?_); repeat (first | with_reducible refine WP.seq ?_ | with_reducible refine WP.block ?_ | with_reducible refine WP.region ?_)
    refine RL.auto T_ok rfl ?_
    refine RL.nil ?_; repeat (first | with_reducible refine QN.block_normal ?_ | with_reducible refine QN.next ?_); repeat (first | with_reducible refine WP.seq ?_ | with_reducible refine WP.block ?_ | with_reducible refine WP.region ?_)
    refine WP.ret ?_; repeat (first | with_reducible refine QN.then_ret ?_ | with_reducible refine QN.block_ret ?_)
    refine QN.ret1 rfl rfl ⟨_, rfl, R.reverse, ⟨hI.canon.reverse, fun c k => ?_, ?_⟩, S, by rw [List.length_reverse]; exact hO, hE1.trans hN.1 (by simp), hN.2.trans' hE1⟩
    · rw [turnOf_reverse, hI.told, List.take_length]
      by_cases hcm : c ∈ cs
      · rw [if_pos hcm]
      · rw [if_neg hcm]
        unfold aboveOf
        by_cases h0 : turnOf rs c k = 0
        · rw [if_neg (by omega)]
        · obtain ⟨_, x, hx, g1, g2, _⟩ := turnOf_num h0
          exact absurd ((hmc c).2 ⟨x, hx, g1, g2⟩) hcm
    · rw [List.length_reverse, hW]
      exact Nat.le_trans hI.len (Nat.mul_le_mul_right _ hlc)
end Go.Proofs.Ytkfakfbndnbpiaa
