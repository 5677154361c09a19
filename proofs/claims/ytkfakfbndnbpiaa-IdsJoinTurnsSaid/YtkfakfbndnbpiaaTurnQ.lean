/- The reference's way to the one form of turns: stretch by stretch. No program, no conditions. -/
import Derived.Test.YtkfakfbndnbpiaaTurnP
namespace Go.Ids
/-- What is above, told of an id. -/
def aboveOf (rs than : List Trn) (c k : Nat) : Nat := if turnOf than c k < turnOf rs c k then turnOf rs c k else 0
theorem turnOf_num {l : List Trn} {c k : Nat} (h : turnOf l c k ≠ 0) : turnOf l c k ≤ 9007199254740991 ∧ ∃ x ∈ l, x.right = true ∧ x.c = c ∧ x.f ≤ k ∧ k < x.t := by
  obtain ⟨x, hx, h1⟩ := turnOf_mem h
  obtain ⟨g1, g2, g3, g4, g5⟩ := at_pos (x := x) (c := c) (k := k) (by omega)
  have := tright_iff.1 g1
  exact ⟨by omega, x, hx, g1, g2, g3, g4⟩
/-- Between two places with no edge between, all is told alike. -/
theorem turnOf_stretch {l : List Trn} {c a k : Nat} (hak : a ≤ k) (h : ∀ x ∈ l, x.right = true → x.c = c → (x.f ≤ a ∨ k < x.f) ∧ (x.t ≤ a ∨ k < x.t)) : turnOf l c k = turnOf l c a := by
  induction l with
  | nil => rfl
  | cons x l ih =>
    have h1 := ih (fun y hy => h y (List.mem_cons_of_mem _ hy))
    have h2 : x.at c k = x.at c a := by
      unfold Trn.at
      by_cases hc : x.right = true ∧ x.c = c
      · have h3 := h x (List.mem_cons_self ..) hc.1 hc.2
        by_cases h4 : x.f ≤ a ∧ a < x.t
        · rw [if_pos ⟨hc.1, hc.2, by omega, by omega⟩, if_pos ⟨hc.1, hc.2, h4⟩]
        · rw [if_neg (fun hh => h4 ⟨by omega, by omega⟩), if_neg (fun hh => h4 hh.2.2)]
      · rw [if_neg (fun hh => hc ⟨hh.1, hh.2.1⟩), if_neg (fun hh => hc ⟨hh.1, hh.2.1⟩)]
    simp only [turnOf, h1, h2]
/-- One stretch. -/
def stepA (rs than : List Trn) (r : List Trn) (c a b : Nat) : List Trn := if turnOf rs c a ≤ turnOf than c a then r else tj r ⟨c, a, b, turnOf rs c a⟩
theorem stepA_spec {rs than r : List Trn} {c a b : Nat} (hr : TCanonR r) (hab : a < b) (ha : 1 ≤ a) (hb : b ≤ 9007199254740992) (hc : 1 ≤ c ∧ c ≤ 9007199254740991)
    (hbeh : ∀ y ∈ r, y.c < c ∨ (y.c = c ∧ y.t ≤ a)) (hst : ∀ k, a ≤ k → k < b → aboveOf rs than c k = aboveOf rs than c a) :
    TCanonR (stepA rs than r c a b) ∧ (∀ c' k, turnOf (stepA rs than r c a b) c' k = max (turnOf r c' k) (if c = c' ∧ a ≤ k ∧ k < b then aboveOf rs than c' k else 0)) ∧ ∀ y ∈ stepA rs than r c a b, y.c < c ∨ (y.c = c ∧ y.t ≤ b) := by
  unfold stepA
  by_cases h : turnOf rs c a ≤ turnOf than c a
  · rw [if_pos h]
    have h0 : aboveOf rs than c a = 0 := if_neg (by omega)
    refine ⟨hr, fun c' k => ?_, fun y hy => ?_⟩
    · by_cases hk : c = c' ∧ a ≤ k ∧ k < b
      · obtain ⟨rfl, h1, h2⟩ := hk
        rw [if_pos ⟨rfl, h1, h2⟩, hst k h1 h2, h0, Nat.max_zero]
      · rw [if_neg hk, Nat.max_zero]
    · rcases hbeh y hy with h1 | ⟨h1, h2⟩
      · exact .inl h1
      · exact .inr ⟨h1, by omega⟩
  · rw [if_neg h]
    have h0 : aboveOf rs than c a = turnOf rs c a := if_pos (by omega)
    have hn := turnOf_num (l := rs) (c := c) (k := a) (by omega)
    have hp : Trn.right ⟨c, a, b, turnOf rs c a⟩ = true := tright_iff.2 ⟨hc.1, hc.2, ha, hab, hb, by simp only; omega, hn.1⟩
    obtain ⟨t1, t2, t3⟩ := tj_spec hr hp hbeh
    refine ⟨t1, fun c' k => ?_, t3⟩
    rw [t2]
    by_cases hk : c = c' ∧ a ≤ k ∧ k < b
    · obtain ⟨rfl, h1, h2⟩ := hk
      rw [if_pos ⟨rfl, h1, h2⟩, hst k h1 h2, h0, at_of hp rfl h1 h2]
    · rw [if_neg hk]
      have : Trn.at ⟨c, a, b, turnOf rs c a⟩ c' k = 0 := if_neg (fun hh => hk hh.2)
      rw [this]
/-- One client: from place to place. -/
def pairsA (rs than : List Trn) (c : Nat) : List Trn → List Nat → List Trn
  | r, a :: b :: M => pairsA rs than c (stepA rs than r c a b) (b :: M)
  | r, _ => r
theorem pairs_spec {rs than : List Trn} {c : Nat} (hc : 1 ≤ c ∧ c ≤ 9007199254740991) : ∀ (M : List Nat) (a : Nat) (r : List Trn), (a :: M).Pairwise (· < ·) → (∀ z ∈ a :: M, 1 ≤ z ∧ z ≤ 9007199254740992) → TCanonR r →
    (∀ y ∈ r, y.c < c ∨ (y.c = c ∧ y.t ≤ a)) → (∀ x ∈ rs ++ than, x.right = true → x.c = c → (x.f < a ∨ x.f ∈ a :: M) ∧ (x.t < a ∨ x.t ∈ a :: M)) →
    TCanonR (pairsA rs than c r (a :: M)) ∧ (∀ c' k, turnOf (pairsA rs than c r (a :: M)) c' k = max (turnOf r c' k) (if c = c' ∧ a ≤ k then aboveOf rs than c' k else 0)) ∧ ∀ y ∈ pairsA rs than c r (a :: M), y.c ≤ c
  | [], a, r, _, _, hr, hbeh, hE => by
    have e : pairsA rs than c r [a] = r := rfl
    rw [e]
    refine ⟨hr, fun c' k => ?_, fun y hy => by rcases hbeh y hy with h | h <;> omega⟩
    by_cases hk : c = c' ∧ a ≤ k
    · obtain ⟨rfl, h1⟩ := hk
      have h0 : turnOf rs c k = 0 := turnOf_zero fun x hx => if_neg fun hh => by
        have h2 := (hE x (List.mem_append_left _ hx) hh.1 hh.2.1).2
        simp only [List.mem_singleton] at h2
        omega
      have : aboveOf rs than c k = 0 := if_neg (by omega)
      rw [if_pos ⟨rfl, h1⟩, this, Nat.max_zero]
    · rw [if_neg hk, Nat.max_zero]
  | b :: M, a, r, hs, hM, hr, hbeh, hE => by
    have e : pairsA rs than c r (a :: b :: M) = pairsA rs than c (stepA rs than r c a b) (b :: M) := rfl
    have hs' := List.pairwise_cons.1 hs
    have hab : a < b := hs'.1 b (List.mem_cons_self ..)
    have hbM := List.pairwise_cons.1 hs'.2
    have hge : ∀ z, z ∈ b :: M → b ≤ z := fun z hz => by
      rcases List.mem_cons.1 hz with rfl | hz
      · exact Nat.le_refl _
      · exact Nat.le_of_lt (hbM.1 z hz)
    have hedge : ∀ x ∈ rs ++ than, x.right = true → x.c = c → (x.f ≤ a ∨ b ≤ x.f) ∧ (x.t ≤ a ∨ b ≤ x.t) := fun x hx h1 h2 => by
      obtain ⟨g1, g2⟩ := hE x hx h1 h2
      constructor
      · rcases g1 with g1 | g1
        · exact .inl (by omega)
        · rcases List.mem_cons.1 g1 with g1 | g1
          · exact .inl (by omega)
          · exact .inr (hge _ g1)
      · rcases g2 with g2 | g2
        · exact .inl (by omega)
        · rcases List.mem_cons.1 g2 with g2 | g2
          · exact .inl (by omega)
          · exact .inr (hge _ g2)
    have hst : ∀ k, a ≤ k → k < b → aboveOf rs than c k = aboveOf rs than c a := fun k h1 h2 => by
      have e1 : turnOf rs c k = turnOf rs c a := turnOf_stretch h1 fun x hx g1 g2 => by
        have := hedge x (List.mem_append_left _ hx) g1 g2; omega
      have e2 : turnOf than c k = turnOf than c a := turnOf_stretch h1 fun x hx g1 g2 => by
        have := hedge x (List.mem_append_right _ hx) g1 g2; omega
      unfold aboveOf
      rw [e1, e2]
    obtain ⟨t1, t2, t3⟩ := stepA_spec (rs := rs) (than := than) hr hab (hM a (List.mem_cons_self ..)).1 (hM b (by simp)).2 hc hbeh hst
    obtain ⟨u1, u2, u3⟩ := pairs_spec hc M b (stepA rs than r c a b) hs'.2 (fun z hz => hM z (List.mem_cons_of_mem _ hz)) t1 t3 (fun x hx h1 h2 => by
      obtain ⟨g1, g2⟩ := hE x hx h1 h2
      constructor
      · rcases g1 with g1 | g1
        · exact .inl (by omega)
        · rcases List.mem_cons.1 g1 with g1 | g1
          · exact .inl (by omega)
          · exact .inr g1
      · rcases g2 with g2 | g2
        · exact .inl (by omega)
        · rcases List.mem_cons.1 g2 with g2 | g2
          · exact .inl (by omega)
          · exact .inr g2)
    rw [e]
    refine ⟨u1, fun c' k => ?_, u3⟩
    rw [u2, t2]
    by_cases h1 : c = c'
    · by_cases h2 : a ≤ k
      · by_cases h3 : k < b
        · rw [if_pos ⟨h1, h2, h3⟩, if_neg (fun hh => by omega), if_pos ⟨h1, h2⟩]; omega
        · rw [if_neg (fun hh => h3 hh.2.2), if_pos ⟨h1, by omega⟩, if_pos ⟨h1, h2⟩]; omega
      · rw [if_neg (fun hh => h2 hh.2.1), if_neg (fun hh => by omega), if_neg (fun hh => h2 hh.2)]; omega
    · rw [if_neg (fun hh => h1 hh.1), if_neg (fun hh => h1 hh.1), if_neg (fun hh => h1 hh.1)]; omega
/-- What a client's edges are. -/
def EdgesOf (rs than : List Trn) (c : Nat) (M : List Nat) : Prop := M.Pairwise (· < ·) ∧ (∀ z ∈ M, 1 ≤ z ∧ z ≤ 9007199254740992) ∧ ∀ x ∈ rs ++ than, x.right = true → x.c = c → x.f ∈ M ∧ x.t ∈ M
theorem client_spec {rs than r : List Trn} {c : Nat} {M : List Nat} (hc : 1 ≤ c ∧ c ≤ 9007199254740991) (hM : EdgesOf rs than c M) (hr : TCanonR r) (hbeh : ∀ y ∈ r, y.c < c) :
    TCanonR (pairsA rs than c r M) ∧ (∀ c' k, turnOf (pairsA rs than c r M) c' k = max (turnOf r c' k) (if c = c' then aboveOf rs than c' k else 0)) ∧ ∀ y ∈ pairsA rs than c r M, y.c ≤ c := by
  obtain ⟨h1, h2, h3⟩ := hM
  cases M with
  | nil =>
    refine ⟨hr, fun c' k => ?_, fun y hy => Nat.le_of_lt (hbeh y hy)⟩
    have e : pairsA rs than c r [] = r := rfl
    rw [e]
    by_cases hcc : c = c'
    · subst hcc
      have h0 : turnOf rs c k = 0 := turnOf_zero fun x hx => if_neg fun hh => by
        have := (h3 x (List.mem_append_left _ hx) hh.1 hh.2.1).1
        cases this
      have : aboveOf rs than c k = 0 := if_neg (by omega)
      rw [if_pos rfl, this, Nat.max_zero]
    · rw [if_neg hcc, Nat.max_zero]
  | cons a M =>
    obtain ⟨p1, p2, p3⟩ := pairs_spec hc M a r h1 h2 hr (fun y hy => .inl (hbeh y hy)) (fun x hx g1 g2 => ⟨.inr (h3 x hx g1 g2).1, .inr (h3 x hx g1 g2).2⟩)
    refine ⟨p1, fun c' k => ?_, p3⟩
    rw [p2]
    by_cases hcc : c = c'
    · subst hcc
      by_cases hk : a ≤ k
      · rw [if_pos ⟨rfl, hk⟩, if_pos rfl]
      · have h0 : turnOf rs c k = 0 := turnOf_zero fun x hx => if_neg fun hh => by
          have h9 := (h3 x (List.mem_append_left _ hx) hh.1 hh.2.1).1
          rcases List.mem_cons.1 h9 with h9 | h9
          · omega
          · have := (List.pairwise_cons.1 h1).1 _ h9
            omega
        have : aboveOf rs than c k = 0 := if_neg (by omega)
        rw [if_neg (fun hh => hk hh.2), if_pos rfl, this]
    · rw [if_neg (fun hh => hcc hh.1), if_neg hcc]
/-- All clients, in order. -/
def clientsA (rs than : List Trn) (E : Nat → List Nat) (r : List Trn) (cs : List Nat) : List Trn := cs.foldl (fun r c => pairsA rs than c r (E c)) r
theorem clients_spec {rs than : List Trn} {E : Nat → List Nat} : ∀ (cs : List Nat) (r : List Trn), cs.Pairwise (· < ·) → (∀ c ∈ cs, (1 ≤ c ∧ c ≤ 9007199254740991) ∧ EdgesOf rs than c (E c)) → TCanonR r → (∀ y ∈ r, ∀ c ∈ cs, y.c < c) →
    TCanonR (clientsA rs than E r cs) ∧ ∀ c' k, turnOf (clientsA rs than E r cs) c' k = max (turnOf r c' k) (if c' ∈ cs then aboveOf rs than c' k else 0)
  | [], r, _, _, hr, _ => ⟨hr, fun c' k => by simp [clientsA]⟩
  | c :: cs, r, hs, hE, hr, hbeh => by
    have hs' := List.pairwise_cons.1 hs
    obtain ⟨h1, h2⟩ := hE c (List.mem_cons_self ..)
    obtain ⟨p1, p2, p3⟩ := client_spec h1 h2 hr (fun y hy => hbeh y hy c (List.mem_cons_self ..))
    obtain ⟨q1, q2⟩ := clients_spec (E := E) cs (pairsA rs than c r (E c)) hs'.2 (fun d hd => hE d (List.mem_cons_of_mem _ hd)) p1 (fun y hy d hd => Nat.lt_of_le_of_lt (p3 y hy) (hs'.1 d hd))
    refine ⟨q1, fun c' k => ?_⟩
    show turnOf (clientsA rs than E (pairsA rs than c r (E c)) cs) c' k = _
    rw [q2, p2]
    by_cases hcc : c = c'
    · subst hcc
      have hn : c ∉ cs := fun hh => by have := hs'.1 c hh; omega
      rw [if_pos rfl, if_neg hn, if_pos (List.mem_cons_self ..)]; omega
    · rw [if_neg hcc]
      by_cases hm : c' ∈ cs
      · rw [if_pos hm, if_pos (List.mem_cons_of_mem _ hm)]; omega
      · rw [if_neg hm, if_neg (fun hh => (List.mem_cons.1 hh).elim (fun h => hcc h.symm) hm)]; omega
theorem aboveOf_nil (l : List Trn) (c k : Nat) : aboveOf l [] c k = turnOf l c k := by
  unfold aboveOf
  have : turnOf [] c k = 0 := rfl
  rw [this]
  split <;> omega
end Go.Ids
