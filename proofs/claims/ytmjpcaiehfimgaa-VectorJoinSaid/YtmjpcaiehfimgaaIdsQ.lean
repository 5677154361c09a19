/- Sets less sets, in plain lists. No program, no conditions. -/
import Derived.Test.YtmjpcaiehfimgaaIdsP
namespace Go.Ids
theorem has_iff {x : Rng} (h1 : 1 ≤ x.c) (h2 : x.c ≤ 9007199254740991) (h3 : 1 ≤ x.f) (h4 : x.t ≤ 9007199254740992) (c k : Nat) : x.has c k ↔ x.c = c ∧ x.f ≤ k ∧ k < x.t :=
  ⟨fun h => h.2, fun h => ⟨right_iff.2 ⟨h1, h2, h3, by omega, h4⟩, h⟩⟩
/-- x less y, out of order: what is ahead of y is put out; what is behind stays. -/
def cutM (s : Rng × List Rng) (y : Rng) : Rng × List Rng :=
  if s.1.c ≠ y.c ∨ y.t ≤ s.1.f ∨ s.1.t ≤ y.f then s else ({ s.1 with f := y.t }, s.2 ++ [⟨s.1.c, s.1.f, y.f⟩])
def outM (B : List Rng) (x : Rng) (out : List Rng) : List Rng := (B.foldl cutM (x, out)).2 ++ [(B.foldl cutM (x, out)).1]
def minusO (A B : List Rng) : List Rng := A.foldl (fun out x => outM B x out) []
theorem cutM_spec : ∀ (B : List Rng) (x : Rng) (out : List Rng), Canon B → 1 ≤ x.c → x.c ≤ 9007199254740991 → 1 ≤ x.f → x.t ≤ 9007199254740992 →
    ∀ c k, mem (outM B x out) c k ↔ mem out c k ∨ (x.has c k ∧ ¬ mem B c k)
  | [], x, out, _, _, _, _, _, c, k => by
    simp only [outM, List.foldl_nil]
    rw [mem_append, mem_cons]
    constructor
    · rintro (h | h | h)
      · exact .inl h
      · exact .inr ⟨h, mem_nil⟩
      · exact absurd h mem_nil
    · rintro (h | h)
      · exact .inl h
      · exact .inr (.inl h.1)
  | y :: B, x, out, hB, h1, h2, h3, h4, c, k => by
    have hy := right_iff.1 hB.head
    have e : outM (y :: B) x out = outM B (cutM (x, out) y).1 (cutM (x, out) y).2 := rfl
    rw [e]
    by_cases hc : x.c ≠ y.c ∨ y.t ≤ x.f ∨ x.t ≤ y.f
    · have : cutM (x, out) y = (x, out) := if_pos hc
      rw [this, cutM_spec B x out hB.tail h1 h2 h3 h4, mem_cons]
      constructor
      · rintro (h | ⟨h, h'⟩)
        · exact .inl h
        · refine .inr ⟨h, ?_⟩
          rintro (hh | hh)
          · obtain ⟨_, g1, g2, g3⟩ := h
            obtain ⟨_, g4, g5, g6⟩ := hh
            omega
          · exact h' hh
      · rintro (h | ⟨h, h'⟩)
        · exact .inl h
        · exact .inr ⟨h, fun hh => h' (.inr hh)⟩
    · have hx2 : cutM (x, out) y = ({ x with f := y.t }, out ++ [⟨x.c, x.f, y.f⟩]) := if_neg hc
      rw [hx2, cutM_spec B _ _ hB.tail (by exact h1) (by exact h2) (by show 1 ≤ y.t; omega) (by exact h4), mem_append, mem_cons, mem_cons]
      have i1 := has_iff (x := ⟨x.c, x.f, y.f⟩) h1 h2 h3 (by show y.f ≤ _; omega) c k
      have i2 := has_iff (x := { x with f := y.t }) h1 h2 (by show 1 ≤ y.t; omega) h4 c k
      have i3 := has_iff h1 h2 h3 h4 c k
      have i4 := has_iff hy.1 hy.2.1 hy.2.2.1 hy.2.2.2.2 c k
      simp only at i1 i2
      have hbeh : mem B c k → y.c < c ∨ (y.c = c ∧ y.t < k) := fun hm => by
        obtain ⟨z, hz, g0, g1, g2, g3⟩ := hm
        rcases hB.behind hz with g4 | ⟨g4, g5⟩
        · exact .inl (by omega)
        · exact .inr ⟨by omega, by omega⟩
      rw [i1, i2, i3, i4]
      constructor
      · rintro ((h | h | h) | ⟨h, h'⟩)
        · exact .inl h
        · refine .inr ⟨by omega, ?_⟩
          rintro (hh | hh)
          · omega
          · have := hbeh hh; omega
        · exact absurd h mem_nil
        · refine .inr ⟨by omega, ?_⟩
          rintro (hh | hh)
          · omega
          · exact h' hh
      · rintro (h | ⟨h, h'⟩)
        · exact .inl (.inl h)
        · by_cases hk : k < y.f
          · exact .inl (.inr (.inl (by omega)))
          · refine .inr ⟨?_, fun hh => h' (.inr hh)⟩
            have : ¬ (y.c = c ∧ y.f ≤ k ∧ k < y.t) := fun hh => h' (.inl hh)
            omega
theorem minusO_spec (B : List Rng) (hB : Canon B) : ∀ (A : List Rng) (out : List Rng), (∀ x ∈ A, x.right = true) → ∀ c k, mem (A.foldl (fun out x => outM B x out) out) c k ↔ mem out c k ∨ (mem A c k ∧ ¬ mem B c k)
  | [], out, _, c, k => by
    simp only [List.foldl_nil]
    exact ⟨.inl, fun h => h.elim id fun h => absurd h.1 mem_nil⟩
  | x :: A, out, hA, c, k => by
    have hx := right_iff.1 (hA x (List.mem_cons_self ..))
    rw [List.foldl_cons, minusO_spec B hB A _ (fun z hz => hA z (List.mem_cons_of_mem _ hz)), cutM_spec B x out hB hx.1 hx.2.1 hx.2.2.1 hx.2.2.2.2, mem_cons]
    constructor
    · rintro ((h | h) | h)
      · exact .inl h
      · exact .inr ⟨.inl h.1, h.2⟩
      · exact .inr ⟨.inr h.1, h.2⟩
    · rintro (h | ⟨h | h, h'⟩)
      · exact .inl (.inl h)
      · exact .inl (.inr ⟨h, h'⟩)
      · exact .inr ⟨h, h'⟩
/-- A less B, in the one form. -/
def minus (a b : List Rng) : List Rng := clean (minusO (clean a) (clean b))
theorem minus_mem (a b : List Rng) (c k : Nat) : mem (minus a b) c k ↔ mem a c k ∧ ¬ mem b c k := by
  unfold minus minusO
  rw [clean_mem, minusO_spec _ (clean_canon b) _ _ (clean_canon a).1, clean_mem, clean_mem]
  exact ⟨fun h => h.resolve_left mem_nil, .inr⟩
theorem minus_canon (a b : List Rng) : Canon (minus a b) := clean_canon _
theorem cutM_len : ∀ (B : List Rng) (s : Rng × List Rng), (B.foldl cutM s).2.length ≤ s.2.length + B.length
  | [], s => by simp
  | y :: B, s => by
    have := cutM_len B (cutM s y)
    have h2 : (cutM s y).2.length ≤ s.2.length + 1 := by unfold cutM; split <;> simp
    rw [List.foldl_cons, List.length_cons]
    omega
theorem outM_len (B : List Rng) (x : Rng) (out : List Rng) : (outM B x out).length ≤ out.length + (B.length + 1) := by
  unfold outM
  have := cutM_len B (x, out)
  simp only [List.length_append, List.length_cons, List.length_nil] at *
  omega
theorem minusO_len : ∀ (A B : List Rng) (out : List Rng), (A.foldl (fun out x => outM B x out) out).length ≤ out.length + A.length * (B.length + 1)
  | [], B, out => by simp
  | x :: A, B, out => by
    have h1 := minusO_len A B (outM B x out)
    have h2 := outM_len B x out
    rw [List.foldl_cons, List.length_cons, Nat.succ_mul]
    omega
theorem minus_len (a b : List Rng) : (minus a b).length ≤ a.length * (b.length + 1) := by
  have h1 := minusO_len (clean a) (clean b) []
  have h2 := clean_len (minusO (clean a) (clean b))
  have h3 : (clean a).length * ((clean b).length + 1) ≤ a.length * (b.length + 1) := Nat.mul_le_mul (clean_len a) (Nat.succ_le_succ (clean_len b))
  unfold minus minusO at *
  simp only [List.length_nil, Nat.zero_add] at h1
  omega
/-- The reference's way: one range of b after another. -/
def splitM (y x : Rng) : List Rng := if x.c ≠ y.c ∨ y.t ≤ x.f ∨ x.t ≤ y.f then [x] else [⟨x.c, x.f, y.f⟩, ⟨x.c, y.t, x.t⟩]
theorem splitM_mem {y x : Rng} (hy : y.right = true) (hx : x.right = true) (c k : Nat) : mem (splitM y x) c k ↔ x.has c k ∧ ¬ y.has c k := by
  have gy := right_iff.1 hy
  have gx := right_iff.1 hx
  have i3 := has_iff gx.1 gx.2.1 gx.2.2.1 gx.2.2.2.2 c k
  have i4 := has_iff gy.1 gy.2.1 gy.2.2.1 gy.2.2.2.2 c k
  unfold splitM
  split
  · rw [mem_cons, i3, i4]
    constructor
    · rintro (h | h)
      · exact ⟨h, by omega⟩
      · exact absurd h mem_nil
    · intro h; exact .inl h.1
  · have i1 := has_iff (x := ⟨x.c, x.f, y.f⟩) gx.1 gx.2.1 gx.2.2.1 (by show y.f ≤ _; omega) c k
    have i2 := has_iff (x := ⟨x.c, y.t, x.t⟩) gx.1 gx.2.1 (by show 1 ≤ y.t; omega) gx.2.2.2.2 c k
    simp only at i1 i2
    rw [mem_cons, mem_cons, i1, i2, i3, i4]
    constructor
    · rintro (h | h | h)
      · exact ⟨by omega, by omega⟩
      · exact ⟨by omega, by omega⟩
      · exact absurd h mem_nil
    · rintro ⟨h, h'⟩
      by_cases hk : k < y.f
      · exact .inl (by omega)
      · exact .inr (.inl (by omega))
theorem splits_mem {y : Rng} (hy : y.right = true) : ∀ (l : List Rng), (∀ x ∈ l, x.right = true) → ∀ c k, mem (l.flatMap (splitM y)) c k ↔ mem l c k ∧ ¬ y.has c k
  | [], _, c, k => by simp [mem_nil]
  | x :: l, h, c, k => by
    rw [List.flatMap_cons, mem_append, splitM_mem hy (h x (List.mem_cons_self ..)), splits_mem hy l (fun z hz => h z (List.mem_cons_of_mem _ hz)), mem_cons]
    constructor
    · rintro (h | h)
      · exact ⟨.inl h.1, h.2⟩
      · exact ⟨.inr h.1, h.2⟩
    · rintro ⟨h | h, h'⟩
      · exact .inl ⟨h, h'⟩
      · exact .inr ⟨h, h'⟩
theorem Canon.take {l : List Rng} (h : Canon l) (i : Nat) : Canon (l.take i) := ⟨fun x hx => h.1 x (List.mem_of_mem_take hx), h.2.sublist (List.take_sublist i l)⟩
theorem minus_take (a b : List Rng) (i : Nat) (h : i < (clean b).length) : clean ((minus a ((clean b).take i)).flatMap (splitM (clean b)[i])) = minus a ((clean b).take (i + 1)) := by
  refine canon_unique (clean_canon _) (minus_canon _ _) fun c k => ?_
  rw [clean_mem, splits_mem ((clean_canon b).1 _ (List.getElem_mem _)) _ (minus_canon _ _).1, minus_mem, minus_mem, List.take_succ_eq_append_getElem h, mem_append, mem_cons]
  constructor
  · rintro ⟨⟨h1, h2⟩, h3⟩
    refine ⟨h1, ?_⟩
    rintro (h4 | h4 | h4)
    · exact h2 h4
    · exact h3 h4
    · exact mem_nil h4
  · rintro ⟨h1, h2⟩
    exact ⟨⟨h1, fun h3 => h2 (.inl h3)⟩, fun h3 => h2 (.inr (.inl h3))⟩
theorem minus_nil (a : List Rng) : minus a [] = clean a := canon_unique (minus_canon _ _) (clean_canon _) fun c k => by rw [minus_mem, clean_mem]; exact ⟨fun h => h.1, fun h => ⟨h, mem_nil⟩⟩
theorem minus_clean (a b : List Rng) : minus a (clean b) = minus a b := canon_unique (minus_canon _ _) (minus_canon _ _) fun c k => by rw [minus_mem, minus_mem, clean_mem]
theorem splits_len (y : Rng) : ∀ l : List Rng, (l.flatMap (splitM y)).length ≤ 2 * l.length
  | [] => by simp
  | x :: l => by
    have := splits_len y l
    have h2 : (splitM y x).length ≤ 2 := by unfold splitM; split <;> simp
    rw [List.flatMap_cons, List.length_append, List.length_cons]
    omega
/-! ### Both, either -/
def join (a b : List Rng) : List Rng := clean (a ++ b)
theorem join_mem (a b : List Rng) (c k : Nat) : mem (join a b) c k ↔ mem a c k ∨ mem b c k := by unfold join; rw [clean_mem, mem_append]
theorem join_canon (a b : List Rng) : Canon (join a b) := clean_canon _
theorem join_len (a b : List Rng) : (join a b).length ≤ a.length + b.length := by
  have := clean_len (a ++ b)
  rw [List.length_append] at this; exact this
def both (x y : Rng) : List Rng := if x.c = y.c then [⟨x.c, max x.f y.f, min x.t y.t⟩] else []
theorem both_mem {x y : Rng} (hx : x.right = true) (hy : y.right = true) (c k : Nat) : mem (both x y) c k ↔ x.has c k ∧ y.has c k := by
  have gx := right_iff.1 hx
  have gy := right_iff.1 hy
  rw [has_iff gx.1 gx.2.1 gx.2.2.1 gx.2.2.2.2, has_iff gy.1 gy.2.1 gy.2.2.1 gy.2.2.2.2]
  unfold both
  split
  · have i := has_iff (x := ⟨x.c, max x.f y.f, min x.t y.t⟩) gx.1 gx.2.1 (by show 1 ≤ max x.f y.f; omega) (by show min x.t y.t ≤ _; omega) c k
    simp only at i
    rw [mem_cons, i]
    constructor
    · rintro (h | h)
      · omega
      · exact absurd h mem_nil
    · intro h; exact .inl (by omega)
  · exact ⟨fun h => absurd h mem_nil, fun h => by omega⟩
theorem mem_flatMap {f : Rng → List Rng} : ∀ {l : List Rng} {c k : Nat}, mem (l.flatMap f) c k ↔ ∃ x ∈ l, mem (f x) c k
  | [], c, k => by simp [mem_nil]
  | x :: l, c, k => by
    rw [List.flatMap_cons, mem_append, mem_flatMap]
    constructor
    · rintro (h | ⟨y, hy, h⟩)
      · exact ⟨x, List.mem_cons_self .., h⟩
      · exact ⟨y, List.mem_cons_of_mem _ hy, h⟩
    · rintro ⟨y, hy, h⟩
      rcases List.mem_cons.1 hy with rfl | hy
      · exact .inl h
      · exact .inr ⟨y, hy, h⟩
def meetO (A B : List Rng) : List Rng := A.flatMap fun x => B.flatMap (both x)
def meet (a b : List Rng) : List Rng := clean (meetO (clean a) (clean b))
theorem meet_mem (a b : List Rng) (c k : Nat) : mem (meet a b) c k ↔ mem a c k ∧ mem b c k := by
  unfold meet meetO
  rw [clean_mem, mem_flatMap]
  have ha := (clean_canon a).1
  have hb := (clean_canon b).1
  constructor
  · rintro ⟨x, hx, h⟩
    obtain ⟨y, hy, h⟩ := mem_flatMap.1 h
    obtain ⟨h1, h2⟩ := (both_mem (ha x hx) (hb y hy) c k).1 h
    exact ⟨(clean_mem a c k).1 ⟨x, hx, h1⟩, (clean_mem b c k).1 ⟨y, hy, h2⟩⟩
  · rintro ⟨h1, h2⟩
    obtain ⟨x, hx, h1⟩ := (clean_mem a c k).2 h1
    obtain ⟨y, hy, h2⟩ := (clean_mem b c k).2 h2
    exact ⟨x, hx, mem_flatMap.2 ⟨y, hy, (both_mem (ha x hx) (hb y hy) c k).2 ⟨h1, h2⟩⟩⟩
theorem meet_canon (a b : List Rng) : Canon (meet a b) := clean_canon _
theorem boths_len (x : Rng) : ∀ B : List Rng, (B.flatMap (both x)).length ≤ B.length
  | [] => by simp
  | y :: B => by
    have := boths_len x B
    have h2 : (both x y).length ≤ 1 := by unfold both; split <;> simp
    rw [List.flatMap_cons, List.length_append, List.length_cons]
    omega
theorem meetO_len : ∀ (A B : List Rng), (meetO A B).length ≤ A.length * B.length
  | [], B => by simp [meetO]
  | x :: A, B => by
    have h1 := meetO_len A B
    have h2 := boths_len x B
    unfold meetO at *
    rw [List.flatMap_cons, List.length_append, List.length_cons, Nat.succ_mul]
    omega
theorem meet_len (a b : List Rng) : (meet a b).length ≤ a.length * b.length := by
  have h1 := meetO_len (clean a) (clean b)
  have h2 := clean_len (meetO (clean a) (clean b))
  have h3 : (clean a).length * (clean b).length ≤ a.length * b.length := Nat.mul_le_mul (clean_len a) (clean_len b)
  unfold meet
  omega
end Go.Ids
