/- What is above, found piece by piece between two canonical lists of turns. No program, no conditions. -/
import Derived.Test.YtkfakfbndnbpiaaTurnQ
namespace Go.Ids
/-- One of the others against what is left of one. -/
def cutT (s : Trn × List Trn) (y : Trn) : Trn × List Trn :=
  if y.c ≠ s.1.c ∨ y.t ≤ s.1.f ∨ s.1.t ≤ y.f then s
  else ({ s.1 with f := min s.1.t y.t }, (s.2 ++ (if s.1.f < y.f then [⟨s.1.c, s.1.f, y.f, s.1.n⟩] else [])) ++ (if y.n < s.1.n then [⟨s.1.c, max s.1.f y.f, min s.1.t y.t, s.1.n⟩] else []))
def finT (s : Trn × List Trn) : List Trn := s.2 ++ (if s.1.f < s.1.t then [s.1] else [])
def aboveO (A B : List Trn) : List Trn := A.foldl (fun out x => finT (B.foldl cutT (x, out))) []
/-- What of one is above a number. -/
def abv (n b : Nat) : Nat := if b < n then n else 0
theorem abv_max (a b n : Nat) : abv (max a b) n = max (abv a n) (abv b n) := by
  unfold abv
  repeat' split
  all_goals omega
theorem at_cases (x : Trn) (c k : Nat) : (x.right = true ∧ x.c = c ∧ x.f ≤ k ∧ k < x.t ∧ x.at c k = x.n) ∨ (¬ (x.right = true ∧ x.c = c ∧ x.f ≤ k ∧ k < x.t) ∧ x.at c k = 0) := by
  by_cases h : x.right = true ∧ x.c = c ∧ x.f ≤ k ∧ k < x.t
  · exact .inl ⟨h.1, h.2.1, h.2.2.1, h.2.2.2, if_pos h⟩
  · exact .inr ⟨h, if_neg h⟩
/-- A turn that is right but for being empty, perhaps. -/
def Nigh (x : Trn) : Prop := 1 ≤ x.c ∧ x.c ≤ 9007199254740991 ∧ 1 ≤ x.f ∧ x.t ≤ 9007199254740992 ∧ 1 ≤ x.n ∧ x.n ≤ 9007199254740991
theorem Nigh.at {x : Trn} (h : Nigh x) (c k : Nat) : x.at c k = if x.c = c ∧ x.f ≤ k ∧ k < x.t then x.n else 0 := by
  unfold Trn.at
  by_cases h1 : x.c = c ∧ x.f ≤ k ∧ k < x.t
  · rw [if_pos h1, if_pos ⟨tright_iff.2 ⟨h.1, h.2.1, h.2.2.1, by omega, h.2.2.2.1, h.2.2.2.2⟩, h1⟩]
  · rw [if_neg h1, if_neg (fun hh => h1 hh.2)]
theorem Nigh.of {x : Trn} (h : x.right = true) : Nigh x := by
  have := tright_iff.1 h
  exact ⟨this.1, this.2.1, this.2.2.1, this.2.2.2.2.1, this.2.2.2.2.2⟩
theorem turnOf_one (x : Trn) (c k : Nat) : turnOf [x] c k = x.at c k := by simp [turnOf]
theorem turnOf_opt (p : Prop) [Decidable p] (x : Trn) (c k : Nat) : turnOf (if p then [x] else []) c k = if p then x.at c k else 0 := by
  split
  · exact turnOf_one _ _ _
  · rfl
theorem cutT_spec : ∀ (B : List Trn) (x : Trn) (out : List Trn), TCanon B → Nigh x → ∀ c k, turnOf (finT (B.foldl cutT (x, out))) c k = max (turnOf out c k) (abv (x.at c k) (turnOf B c k))
  | [], x, out, _, hx, c, k => by
    show turnOf (out ++ (if x.f < x.t then [x] else [])) c k = _
    rw [turnOf_append, turnOf_opt, hx.at]
    have : turnOf [] c k = 0 := rfl
    rw [this]
    unfold abv
    have := hx.2.2.2.2
    repeat' split
    all_goals omega
  | y :: B, x, out, hB, hx, c, k => by
    have hy := tright_iff.1 hB.head
    have ih := cutT_spec B
    rw [List.foldl_cons]
    have e1 : turnOf (y :: B) c k = max (y.at c k) (turnOf B c k) := rfl
    by_cases hs : y.c ≠ x.c ∨ y.t ≤ x.f ∨ x.t ≤ y.f
    · have hc : cutT (x, out) y = (x, out) := if_pos hs
      rw [hc, ih x out hB.tail hx c k, e1, hx.at, (Nigh.of hB.head).at]
      congr 1
      unfold abv
      repeat' split
      all_goals omega
    · have hc : cutT (x, out) y = ({ x with f := min x.t y.t }, (out ++ (if x.f < y.f then [⟨x.c, x.f, y.f, x.n⟩] else [])) ++ (if y.n < x.n then [⟨x.c, max x.f y.f, min x.t y.t, x.n⟩] else [])) := if_neg hs
      have hx' : Nigh { x with f := min x.t y.t } := ⟨hx.1, hx.2.1, by show 1 ≤ min x.t y.t; omega, hx.2.2.2.1, hx.2.2.2.2⟩
      have hp1 : Nigh ⟨x.c, x.f, y.f, x.n⟩ := ⟨hx.1, hx.2.1, hx.2.2.1, by show y.f ≤ _; omega, hx.2.2.2.2⟩
      have hp2 : Nigh ⟨x.c, max x.f y.f, min x.t y.t, x.n⟩ := ⟨hx.1, hx.2.1, by show 1 ≤ max x.f y.f; omega, by show min x.t y.t ≤ _; have := hx.2.2.2.1; omega, hx.2.2.2.2⟩
      have hlow : c = x.c ∧ k < y.t → turnOf B c k = 0 := fun hh => hB.tail_zero (.inr ⟨by omega, hh.2⟩)
      rw [hc, ih _ _ hB.tail hx' c k, turnOf_append, turnOf_append, turnOf_opt, turnOf_opt, e1]
      generalize turnOf B c k = tb at hlow
      generalize turnOf out c k = to
      have hn := hx.2.2.2.2
      have ay := (Nigh.of hB.head).at c k
      have ax := hx.at c k
      have a1 := hp1.at c k
      have a2 := hp2.at c k
      have a3 := hx'.at c k
      simp only at a1 a2 a3
      by_cases hk : x.c = c ∧ x.f ≤ k ∧ k < x.t
      · rw [if_pos hk] at ax
        by_cases h1 : k < y.f
        · rw [if_neg (fun hh => by omega)] at ay
          rw [if_pos ⟨hk.1, hk.2.1, h1⟩] at a1
          rw [if_neg (fun hh => by omega)] at a2
          rw [if_neg (fun hh => by omega)] at a3
          have h0 := hlow ⟨hk.1.symm, by omega⟩
          rw [ax, ay, a1, a2, a3, h0, if_pos (show x.f < y.f by omega)]
          unfold abv
          have e0 : ∀ (p : Prop) [Decidable p], (if p then 0 else 0 : Nat) = 0 := fun p _ => by split <;> rfl
          rw [if_pos (show max 0 0 < x.n by omega), e0, e0]; omega
        · by_cases h2 : k < y.t
          · rw [if_pos ⟨by omega, by omega, h2⟩] at ay
            rw [if_neg (fun hh => by omega)] at a1
            rw [if_pos ⟨hk.1, by omega, by omega⟩] at a2
            rw [if_neg (fun hh => by omega)] at a3
            have h0 := hlow ⟨hk.1.symm, h2⟩
            rw [ax, ay, a1, a2, a3, h0, Nat.max_zero]
            unfold abv
            rw [if_neg (show ¬ 0 < 0 by omega)]
            by_cases h3 : y.n < x.n
            · rw [if_pos h3]
              split <;> omega
            · rw [if_neg h3]
              split <;> omega
          · rw [if_neg (fun hh => by omega)] at ay
            rw [if_neg (fun hh => by omega)] at a1
            rw [if_neg (fun hh => by omega)] at a2
            rw [if_pos ⟨hk.1, by omega, hk.2.2⟩] at a3
            rw [ax, ay, a1, a2, a3, Nat.zero_max]
            have e0 : ∀ (p : Prop) [Decidable p], (if p then 0 else 0 : Nat) = 0 := fun p _ => by split <;> rfl
            rw [e0, e0]; omega
      · rw [if_neg hk] at ax
        rw [if_neg (fun hh => hk (by omega))] at a1
        rw [if_neg (fun hh => hk (by omega))] at a2
        rw [if_neg (fun hh => hk (by omega))] at a3
        have e0 : ∀ (p : Prop) [Decidable p], (if p then 0 else 0 : Nat) = 0 := fun p _ => by split <;> rfl
        have e2 : ∀ n, abv 0 n = 0 := fun n => by unfold abv; split <;> rfl
        rw [ax, a1, a2, a3, e0, e0, e2, e2]; omega
theorem aboveO_spec (B : List Trn) (hB : TCanon B) : ∀ (A out : List Trn), (∀ x ∈ A, x.right = true) → ∀ c k, turnOf (A.foldl (fun out x => finT (B.foldl cutT (x, out))) out) c k = max (turnOf out c k) (abv (turnOf A c k) (turnOf B c k))
  | [], out, _, c, k => by
    show turnOf out c k = max (turnOf out c k) (abv 0 _)
    have : ∀ n, abv 0 n = 0 := fun n => by unfold abv; split <;> rfl
    rw [this, Nat.max_zero]
  | x :: A, out, hA, c, k => by
    rw [List.foldl_cons, aboveO_spec B hB A _ (fun y hy => hA y (List.mem_cons_of_mem _ hy)) c k, cutT_spec B x out hB (Nigh.of (hA x (List.mem_cons_self ..))) c k]
    show _ = max (turnOf out c k) (abv (max (x.at c k) (turnOf A c k)) _)
    rw [abv_max]; omega
theorem aboveO_told {a b A B : List Trn} (hA : TCanon A) (hB : TCanon B) (ha : ∀ c k, turnOf A c k = turnOf a c k) (hb : ∀ c k, turnOf B c k = turnOf b c k) (c k : Nat) : turnOf (aboveO A B) c k = aboveOf a b c k := by
  unfold aboveO
  rw [aboveO_spec B hB A [] hA.1 c k, ha, hb]
  have : turnOf [] c k = 0 := rfl
  rw [this, Nat.zero_max]; rfl
theorem cutT_len : ∀ (B : List Trn) (s : Trn × List Trn), (B.foldl cutT s).2.length ≤ s.2.length + 2 * B.length
  | [], s => by simp
  | y :: B, s => by
    rw [List.foldl_cons]
    have h1 := cutT_len B (cutT s y)
    have h2 : (cutT s y).2.length ≤ s.2.length + 2 := by
      unfold cutT
      split
      · omega
      · simp only [List.length_append]
        repeat' split
        all_goals simp
    rw [List.length_cons]; omega
theorem finT_len (s : Trn × List Trn) : (finT s).length ≤ s.2.length + 1 := by
  unfold finT
  rw [List.length_append]
  split <;> simp
theorem aboveO_len : ∀ (A B : List Trn) (out : List Trn), (A.foldl (fun out x => finT (B.foldl cutT (x, out))) out).length ≤ out.length + A.length * (2 * B.length + 1)
  | [], B, out => by simp
  | x :: A, B, out => by
    rw [List.foldl_cons]
    have h1 := aboveO_len A B (finT (B.foldl cutT (x, out)))
    have h2 := finT_len (B.foldl cutT (x, out))
    have h3 := cutT_len B (x, out)
    simp only at h3
    rw [List.length_cons, Nat.succ_mul]; omega
theorem aboveO_take (A B : List Trn) (i : Nat) (h : i < A.length) : aboveO (A.take (i + 1)) B = finT (B.foldl cutT (A[i], aboveO (A.take i) B)) := by
  unfold aboveO
  rw [List.take_succ_eq_append_getElem h, List.foldl_append]; rfl
theorem cutT_take (B : List Trn) (s : Trn × List Trn) (j : Nat) (h : j < B.length) : (B.take (j + 1)).foldl cutT s = cutT ((B.take j).foldl cutT s) B[j] := by
  rw [List.take_succ_eq_append_getElem h, List.foldl_append]; rfl
end Go.Ids
