/- How many ids a set tells. No program, no conditions. -/
import Derived.Test.YtkfakfbndnbpiaaIdsQ
namespace Go.Ids
/-- How many numbers below n. -/
def cn (p : Nat → Prop) [DecidablePred p] : Nat → Nat
  | 0 => 0
  | n + 1 => cn p n + if p n then 1 else 0
theorem cn_congr {p q : Nat → Prop} [DecidablePred p] [DecidablePred q] (h : ∀ k, p k ↔ q k) : ∀ n, cn p n = cn q n
  | 0 => rfl
  | n + 1 => by
    unfold cn
    rw [cn_congr h n]
    by_cases hq : q n
    · rw [if_pos hq, if_pos ((h n).2 hq)]
    · rw [if_neg hq, if_neg (fun hp => hq ((h n).1 hp))]
theorem cn_or {p q r : Nat → Prop} [DecidablePred p] [DecidablePred q] [DecidablePred r] (h : ∀ k, r k ↔ p k ∨ q k) (hd : ∀ k, ¬ (p k ∧ q k)) : ∀ n, cn r n = cn p n + cn q n
  | 0 => rfl
  | n + 1 => by
    have h1 := h n
    have h2 := hd n
    unfold cn
    rw [cn_or h hd n]
    by_cases hp : p n
    · rw [if_pos hp, if_neg (fun hq => h2 ⟨hp, hq⟩), if_pos (h1.2 (.inl hp))]; omega
    · by_cases hq : q n
      · rw [if_neg hp, if_pos hq, if_pos (h1.2 (.inr hq))]; omega
      · rw [if_neg hp, if_neg hq, if_neg (fun hr => (h1.1 hr).elim hp hq)]; omega
theorem cn_none {p : Nat → Prop} [DecidablePred p] : ∀ n, (∀ k, k < n → ¬ p k) → cn p n = 0
  | 0, _ => rfl
  | n + 1, h => by
    unfold cn
    rw [cn_none n (fun k hk => h k (by omega)), if_neg (h n (by omega))]
theorem cn_range (f t : Nat) : ∀ n, cn (fun k => f ≤ k ∧ k < t) n = min n t - f
  | 0 => by simp [cn]
  | n + 1 => by
    unfold cn
    rw [cn_range f t n]
    by_cases h : f ≤ n ∧ n < t
    · rw [if_pos h]; omega
    · rw [if_neg h]; omega
/-- How many pairs below (n, n'). -/
def cn2 (p : Nat → Nat → Prop) [∀ c, DecidablePred (p c)] (n' : Nat) : Nat → Nat
  | 0 => 0
  | n + 1 => cn2 p n' n + cn (p n) n'
theorem cn2_congr {p q : Nat → Nat → Prop} [∀ c, DecidablePred (p c)] [∀ c, DecidablePred (q c)] (n' : Nat) (h : ∀ c k, p c k ↔ q c k) : ∀ n, cn2 p n' n = cn2 q n' n
  | 0 => rfl
  | n + 1 => by unfold cn2; rw [cn2_congr n' h n, cn_congr (h n) n']
theorem cn2_or {p q r : Nat → Nat → Prop} [∀ c, DecidablePred (p c)] [∀ c, DecidablePred (q c)] [∀ c, DecidablePred (r c)] (n' : Nat) (h : ∀ c k, r c k ↔ p c k ∨ q c k) (hd : ∀ c k, ¬ (p c k ∧ q c k)) : ∀ n, cn2 r n' n = cn2 p n' n + cn2 q n' n
  | 0 => rfl
  | n + 1 => by unfold cn2; rw [cn2_or n' h hd n, cn_or (h n) (hd n) n']; omega
theorem cn2_none {p : Nat → Nat → Prop} [∀ c, DecidablePred (p c)] (n' : Nat) : ∀ n, (∀ c k, c < n → ¬ p c k) → cn2 p n' n = 0
  | 0, _ => rfl
  | n + 1, h => by unfold cn2; rw [cn2_none n' n (fun c k hc => h c k (by omega)), cn_none n' (fun k _ => h n k (by omega))]
instance (x : Rng) (c k : Nat) : Decidable (x.has c k) := by unfold Rng.has; infer_instance
instance (l : List Rng) (c k : Nat) : Decidable (mem l c k) := by unfold mem; infer_instance
theorem cn2_rng (x : Rng) (hx : x.right = true) : ∀ n, cn2 (fun c k => x.has c k) 9007199254740992 n = if x.c < n then x.t - x.f else 0
  | 0 => by simp [cn2]
  | n + 1 => by
    have hr := right_iff.1 hx
    have hh : ∀ c k, x.has c k ↔ x.c = c ∧ x.f ≤ k ∧ k < x.t := has_iff hr.1 hr.2.1 hr.2.2.1 hr.2.2.2.2
    unfold cn2
    rw [cn2_rng x hx n]
    by_cases h : x.c = n
    · have e : cn (fun k => x.has n k) 9007199254740992 = cn (fun k => x.f ≤ k ∧ k < x.t) 9007199254740992 := cn_congr (fun k => by rw [hh]; exact ⟨fun h => h.2, fun h' => ⟨h, h'⟩⟩) _
      rw [e, cn_range, if_neg (by omega), if_pos (by omega)]; omega
    · rw [cn_none 9007199254740992 (fun k _ => by rw [hh]; omega)]
      by_cases h2 : x.c < n
      · rw [if_pos h2, if_pos (by omega), Nat.add_zero]
      · rw [if_neg h2, if_neg (by omega)]
/-- How many ids. -/
def cnt (l : List Rng) : Nat := (l.map fun x => x.t - x.f).sum
def many (l : List Rng) : Nat := cn2 (mem l) 9007199254740992 9007199254740992
theorem cnt_many : ∀ (l : List Rng), Canon l → cnt l = many l
  | [], _ => by
    unfold many
    rw [cn2_none _ _ (fun c k _ => mem_nil)]; rfl
  | x :: l, h => by
    have hx := right_iff.1 h.head
    have h1 := cn2_or (p := fun c k => x.has c k) (q := mem l) (r := mem (x :: l)) 9007199254740992 (fun c k => mem_cons) (fun c k ⟨⟨_, g1, g2, g3⟩, g4⟩ => by
      rcases h.mem_behind g4 with g5 | ⟨g5, g6⟩ <;> omega) 9007199254740992
    have h2 := cn2_rng x h.head 9007199254740992
    rw [if_pos (by omega)] at h2
    have h3 := cnt_many l h.tail
    unfold many at *
    rw [h1, h2, ← h3]
    simp [cnt]
theorem many_or {l a b : List Rng} (h : ∀ c k, mem l c k ↔ mem a c k ∨ mem b c k) (hd : ∀ c k, ¬ (mem a c k ∧ mem b c k)) : many l = many a + many b := cn2_or _ h hd _
theorem many_congr {l a : List Rng} (h : ∀ c k, mem l c k ↔ mem a c k) : many l = many a := cn2_congr _ h _
end Go.Ids
