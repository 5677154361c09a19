/- Sets of ids as ranges, in plain lists: the one form, and that it is one. No program, no conditions. -/
namespace Go.Ids

/-- A range: client, from, to. -/
structure Rng where
  c : Nat
  f : Nat
  t : Nat
  deriving DecidableEq
def num (n : Nat) : Bool := decide (1 ≤ n) && decide (n ≤ 9007199254740991)
def Rng.right (x : Rng) : Bool := num x.c && decide (1 ≤ x.f) && decide (x.f < x.t) && decide (x.t ≤ 9007199254740992)
theorem right_iff {x : Rng} : x.right = true ↔ 1 ≤ x.c ∧ x.c ≤ 9007199254740991 ∧ 1 ≤ x.f ∧ x.f < x.t ∧ x.t ≤ 9007199254740992 := by
  simp [Rng.right, num, and_assoc]
/-- Is an id in a range, in a set? -/
def Rng.has (x : Rng) (c k : Nat) : Prop := x.right = true ∧ x.c = c ∧ x.f ≤ k ∧ k < x.t
def mem (l : List Rng) (c k : Nat) : Prop := ∃ x ∈ l, x.has c k
theorem mem_nil {c k : Nat} : ¬ mem [] c k := fun ⟨_, h, _⟩ => by cases h
theorem mem_cons {x : Rng} {l : List Rng} {c k : Nat} : mem (x :: l) c k ↔ x.has c k ∨ mem l c k := by
  constructor
  · rintro ⟨y, hy, h⟩
    rcases List.mem_cons.1 hy with rfl | hy
    · exact .inl h
    · exact .inr ⟨y, hy, h⟩
  · rintro (h | ⟨y, hy, h⟩)
    · exact ⟨x, List.mem_cons_self .., h⟩
    · exact ⟨y, List.mem_cons_of_mem _ hy, h⟩
theorem mem_append {a b : List Rng} {c k : Nat} : mem (a ++ b) c k ↔ mem a c k ∨ mem b c k := by
  constructor
  · rintro ⟨y, hy, h⟩
    rcases List.mem_append.1 hy with hy | hy
    · exact .inl ⟨y, hy, h⟩
    · exact .inr ⟨y, hy, h⟩
  · rintro (⟨y, hy, h⟩ | ⟨y, hy, h⟩)
    · exact ⟨y, List.mem_append_left _ hy, h⟩
    · exact ⟨y, List.mem_append_right _ hy, h⟩
theorem mem_perm {a b : List Rng} (h : a.Perm b) {c k : Nat} : mem a c k ↔ mem b c k :=
  ⟨fun ⟨y, hy, hh⟩ => ⟨y, h.mem_iff.1 hy, hh⟩, fun ⟨y, hy, hh⟩ => ⟨y, h.mem_iff.2 hy, hh⟩⟩
theorem mem_filter {l : List Rng} {c k : Nat} : mem (l.filter Rng.right) c k ↔ mem l c k :=
  ⟨fun ⟨y, hy, hh⟩ => ⟨y, (List.mem_filter.1 hy).1, hh⟩, fun ⟨y, hy, hh⟩ => ⟨y, List.mem_filter.2 ⟨hy, hh.1⟩, hh⟩⟩
theorem mem_reverse {l : List Rng} {c k : Nat} : mem l.reverse c k ↔ mem l c k :=
  ⟨fun ⟨y, hy, hh⟩ => ⟨y, List.mem_reverse.1 hy, hh⟩, fun ⟨y, hy, hh⟩ => ⟨y, List.mem_reverse.2 hy, hh⟩⟩
/-- Behind one another with a gap. -/
def Rng.bef (x y : Rng) : Prop := x.c < y.c ∨ (x.c = y.c ∧ x.t < y.f)
/-- The one form. -/
def Canon (l : List Rng) : Prop := (∀ x ∈ l, x.right = true) ∧ l.Pairwise Rng.bef
theorem Canon.nil : Canon [] := ⟨(fun _ h => by cases h), List.Pairwise.nil⟩
theorem Canon.tail {x : Rng} {l : List Rng} (h : Canon (x :: l)) : Canon l := ⟨fun y hy => h.1 y (List.mem_cons_of_mem _ hy), (List.pairwise_cons.1 h.2).2⟩
theorem Canon.head {x : Rng} {l : List Rng} (h : Canon (x :: l)) : x.right = true := h.1 x (List.mem_cons_self ..)
theorem Canon.behind {x y : Rng} {l : List Rng} (h : Canon (x :: l)) (hy : y ∈ l) : x.bef y := (List.pairwise_cons.1 h.2).1 y hy
/-- What is behind the head's range is behind. -/
theorem Canon.mem_behind {x : Rng} {l : List Rng} (h : Canon (x :: l)) {c k : Nat} (hm : mem l c k) : x.c < c ∨ (x.c = c ∧ x.t < k) := by
  obtain ⟨y, hy, hr, rfl, h1, h2⟩ := hm
  rcases h.behind hy with h3 | ⟨h3, h4⟩
  · exact .inl h3
  · exact .inr ⟨h3, by omega⟩
theorem canon_unique : ∀ {a b : List Rng}, Canon a → Canon b → (∀ c k, mem a c k ↔ mem b c k) → a = b
  | [], [], _, _, _ => rfl
  | [], y :: b, _, hb, h => by
    have hr := right_iff.1 hb.head
    exact absurd ((h y.c y.f).2 ⟨y, List.mem_cons_self .., hb.head, rfl, Nat.le_refl _, by omega⟩) mem_nil
  | x :: a, [], ha, _, h => by
    have hr := right_iff.1 ha.head
    exact absurd ((h x.c x.f).1 ⟨x, List.mem_cons_self .., ha.head, rfl, Nat.le_refl _, by omega⟩) mem_nil
  | x :: a, y :: b, ha, hb, h => by
    have hx := right_iff.1 ha.head
    have hy := right_iff.1 hb.head
    have inx : mem (x :: a) x.c x.f := mem_cons.2 (.inl ⟨ha.head, rfl, Nat.le_refl _, by omega⟩)
    have iny : mem (y :: b) y.c y.f := mem_cons.2 (.inl ⟨hb.head, rfl, Nat.le_refl _, by omega⟩)
    have lb : ∀ {z : Rng} {l : List Rng}, Canon (z :: l) → ∀ {c k}, mem (z :: l) c k → z.c < c ∨ (z.c = c ∧ z.f ≤ k) := fun {z l} hc {c k} hm => by
      rcases mem_cons.1 hm with ⟨_, h1, h2, _⟩ | hm
      · exact .inr ⟨h1, h2⟩
      · have hz := right_iff.1 hc.head
        rcases hc.mem_behind hm with h1 | ⟨h1, h2⟩
        · exact .inl h1
        · exact .inr ⟨h1, by omega⟩
    have h1 := lb hb ((h _ _).1 inx)
    have h2 := lb ha ((h _ _).2 iny)
    have hc : x.c = y.c := by omega
    have hf : x.f = y.f := by omega
    have out : ∀ {z : Rng} {l : List Rng}, Canon (z :: l) → ¬ mem (z :: l) z.c z.t := fun {z l} hcan hm => by
      rcases mem_cons.1 hm with ⟨_, _, _, h3⟩ | hm
      · omega
      · rcases hcan.mem_behind hm with h3 | ⟨_, h3⟩ <;> omega
    have ht : x.t = y.t := by
      rcases Nat.lt_trichotomy x.t y.t with h3 | h3 | h3
      · exfalso
        refine out ha ((h x.c x.t).2 (mem_cons.2 (.inl ⟨hb.head, hc.symm, by omega, h3⟩)))
      · exact h3
      · exfalso
        refine out hb ((h y.c y.t).1 (mem_cons.2 (.inl ⟨ha.head, hc, by omega, h3⟩)))
    have hxy : x = y := by cases x; cases y; simp_all
    subst hxy
    have htl : ∀ c k, mem a c k ↔ mem b c k := fun c k => by
      have h9 := h c k
      rw [mem_cons, mem_cons] at h9
      constructor
      · intro hm
        rcases h9.1 (.inr hm) with ⟨_, h3, h4, h5⟩ | h3
        · rcases ha.mem_behind hm with h6 | ⟨h6, h7⟩ <;> omega
        · exact h3
      · intro hm
        rcases h9.2 (.inr hm) with ⟨_, h3, h4, h5⟩ | h3
        · rcases hb.mem_behind hm with h6 | ⟨h6, h7⟩ <;> omega
        · exact h3
    rw [canon_unique ha.tail hb.tail htl]

/-! ### Joined in order -/
/-- By client, then From. -/
def Rng.le (x y : Rng) : Prop := x.c < y.c ∨ (x.c = y.c ∧ x.f ≤ y.f)
def Rng.lt (x y : Rng) : Bool := decide (x.c < y.c) || (decide (x.c = y.c) && decide (x.f < y.f))
/-- One more range, onto what stands in reverse. -/
def mg : List Rng → Rng → List Rng
  | y :: r, x => if y.c = x.c ∧ x.f ≤ y.t then { y with t := max y.t x.t } :: r else x :: y :: r
  | [], x => [x]
theorem mg_cons (y : Rng) (r : List Rng) (x : Rng) : mg (y :: r) x = if y.c = x.c ∧ x.f ≤ y.t then { y with t := max y.t x.t } :: r else x :: y :: r := rfl
def CanonR (l : List Rng) : Prop := (∀ x ∈ l, x.right = true) ∧ l.Pairwise fun x y => Rng.bef y x
theorem mg_spec {r : List Rng} {x : Rng} (h : CanonR r) (hx : x.right = true) (hle : ∀ y r', r = y :: r' → y.le x) :
    CanonR (mg r x) ∧ (∀ c k, mem (mg r x) c k ↔ mem r c k ∨ x.has c k) ∧ ∀ z, x.le z → ∀ y r', mg r x = y :: r' → y.le z := by
  cases r with
  | nil =>
    refine ⟨⟨fun y hy => ?_, by simp [mg]⟩, fun c k => ?_, fun z hz y r' h => ?_⟩
    · have : y = x := by simpa [mg] using hy
      subst this; exact hx
    · show mem [x] c k ↔ _
      rw [mem_cons]
      constructor
      · rintro (h | h)
        · exact .inr h
        · exact absurd h mem_nil
      · rintro (h | h)
        · exact absurd h mem_nil
        · exact .inl h
    · simp [mg] at h
      rw [← h.1]; exact hz
  | cons y r =>
    have hy := h.1 y (List.mem_cons_self ..)
    have hyr := right_iff.1 hy
    have hxr := right_iff.1 hx
    have hl := hle y r rfl
    rw [mg_cons]
    by_cases hc : y.c = x.c ∧ x.f ≤ y.t
    · rw [if_pos hc]
      have hm : Rng.right { y with t := max y.t x.t } = true := right_iff.2 ⟨hyr.1, hyr.2.1, hyr.2.2.1, by simp only; omega, by simp only; omega⟩
      have hyf : y.f ≤ x.f := by rcases hl with h1 | h1 <;> omega
      refine ⟨⟨fun z hz => ?_, ?_⟩, fun c k => ?_, fun z hz w r' hw => ?_⟩
      · rcases List.mem_cons.1 hz with rfl | hz
        · exact hm
        · exact h.1 z (List.mem_cons_of_mem _ hz)
      · have := List.pairwise_cons.1 h.2
        exact List.pairwise_cons.2 ⟨fun z hz => this.1 z hz, this.2⟩
      · rw [mem_cons, mem_cons]
        constructor
        · rintro (⟨_, h1, h2, h3⟩ | h1)
          · simp only at h1 h2 h3
            by_cases hk : k < y.t
            · exact .inl (.inl ⟨hy, h1, h2, hk⟩)
            · exact .inr ⟨hx, by omega, by omega, by omega⟩
          · exact .inl (.inr h1)
        · rintro ((⟨_, h1, h2, h3⟩ | h1) | ⟨_, h1, h2, h3⟩)
          · exact .inl ⟨hm, h1, h2, by simp only; omega⟩
          · exact .inr h1
          · exact .inl ⟨hm, by simp only; omega, by simp only; omega, by simp only; omega⟩
      · simp only [List.cons.injEq] at hw
        rw [← hw.1]
        rcases hl with h1 | h1 <;> rcases hz with h2 | h2 <;> simp only [Rng.le] <;> omega
    · rw [if_neg hc]
      have hb : y.bef x := by
        rcases hl with h1 | ⟨h1, h2⟩
        · exact .inl h1
        · refine .inr ⟨h1, ?_⟩
          rcases Nat.lt_or_ge y.t x.f with h3 | h3
          · exact h3
          · exact absurd ⟨h1, h3⟩ hc
      refine ⟨⟨fun z hz => ?_, List.pairwise_cons.2 ⟨fun z hz => ?_, h.2⟩⟩, fun c k => ?_, fun z hz w r' hw => ?_⟩
      · rcases List.mem_cons.1 hz with rfl | hz
        · exact hx
        · exact h.1 z hz
      · rcases List.mem_cons.1 hz with rfl | hz
        · exact hb
        · have h3 := (List.pairwise_cons.1 h.2).1 z hz
          rcases h3 with h3 | ⟨h3, h4⟩ <;> rcases hb with h5 | ⟨h5, h6⟩ <;> simp only [Rng.bef] <;> omega
      · rw [mem_cons, or_comm]
      · simp only [List.cons.injEq] at hw
        rw [← hw.1]; exact hz
theorem merge_spec : ∀ (l r : List Rng), CanonR r → (∀ x ∈ l, x.right = true) → l.Pairwise Rng.le → (∀ y r', r = y :: r' → ∀ x ∈ l, y.le x) →
    CanonR (l.foldl mg r) ∧ ∀ c k, mem (l.foldl mg r) c k ↔ mem r c k ∨ mem l c k
  | [], r, hr, _, _, _ => ⟨hr, fun c k => ⟨.inl, fun h => h.resolve_right mem_nil⟩⟩
  | x :: l, r, hr, hl, hp, hle => by
    have hp' := List.pairwise_cons.1 hp
    obtain ⟨h1, h2, h3⟩ := mg_spec hr (hl x (List.mem_cons_self ..)) (fun y r' h => hle y r' h x (List.mem_cons_self ..))
    obtain ⟨h4, h5⟩ := merge_spec l (mg r x) h1 (fun y hy => hl y (List.mem_cons_of_mem _ hy)) hp'.2 (fun y r' h z hz => h3 z (hp'.1 z hz) y r' h)
    refine ⟨h4, fun c k => ?_⟩
    show mem (l.foldl mg (mg r x)) c k ↔ _
    rw [h5, h2, mem_cons, or_assoc]
theorem CanonR.reverse {l : List Rng} (h : CanonR l) : Canon l.reverse := ⟨fun x hx => h.1 x (List.mem_reverse.1 hx), List.pairwise_reverse.2 h.2⟩
/-- Put in at its place. -/
def ins (x : Rng) : List Rng → List Rng
  | [] => [x]
  | y :: l => if x.lt y then x :: y :: l else y :: ins x l
def isort (l : List Rng) : List Rng := l.foldr ins []
theorem ins_perm (x : Rng) : ∀ l, (ins x l).Perm (x :: l)
  | [] => List.Perm.refl _
  | y :: l => by
    unfold ins
    split
    · exact List.Perm.refl _
    · exact ((ins_perm x l).cons y).trans (List.Perm.swap x y l)
theorem lt_iff {x y : Rng} : x.lt y = true ↔ x.c < y.c ∨ (x.c = y.c ∧ x.f < y.f) := by simp [Rng.lt]
theorem le_of_not_lt {x y : Rng} (h : ¬ x.lt y = true) : y.le x := by rw [lt_iff] at h; simp only [Rng.le]; omega
theorem ins_sorted (x : Rng) : ∀ l, l.Pairwise Rng.le → (ins x l).Pairwise Rng.le
  | [], _ => by simp [ins]
  | y :: l, h => by
    have h' := List.pairwise_cons.1 h
    unfold ins
    split
    · rename_i hc
      rw [lt_iff] at hc
      refine List.pairwise_cons.2 ⟨fun z hz => ?_, h⟩
      rcases List.mem_cons.1 hz with rfl | hz
      · simp only [Rng.le]; omega
      · have := h'.1 z hz
        simp only [Rng.le] at this ⊢; omega
    · rename_i hc
      refine List.pairwise_cons.2 ⟨fun z hz => ?_, ins_sorted x l h'.2⟩
      rcases List.mem_cons.1 ((ins_perm x l).mem_iff.1 hz) with rfl | hz
      · exact le_of_not_lt hc
      · exact h'.1 z hz
theorem isort_perm : ∀ l, (isort l).Perm l
  | [] => List.Perm.refl _
  | x :: l => (ins_perm x _).trans ((isort_perm l).cons x)
theorem isort_sorted : ∀ l, (isort l).Pairwise Rng.le
  | [] => List.Pairwise.nil
  | x :: l => ins_sorted x _ (isort_sorted l)
/-- The document's form of any ranges. -/
def clean (l : List Rng) : List Rng := ((isort (l.filter Rng.right)).foldl mg []).reverse
theorem merged (l d : List Rng) (hp : d.Perm (l.filter Rng.right)) (hs : d.Pairwise Rng.le) : Canon (d.foldl mg []).reverse ∧ ∀ c k, mem (d.foldl mg []).reverse c k ↔ mem l c k := by
  obtain ⟨h1, h2⟩ := merge_spec d [] ⟨(fun _ h => by cases h), List.Pairwise.nil⟩ (fun x hx => (List.mem_filter.1 (hp.mem_iff.1 hx)).2) hs (fun y r' h => by cases h)
  refine ⟨h1.reverse, fun c k => ?_⟩
  rw [mem_reverse, h2, mem_perm hp, mem_filter]
  exact ⟨fun h => h.resolve_left mem_nil, .inr⟩
theorem clean_canon (l : List Rng) : Canon (clean l) := (merged l _ (isort_perm _) (isort_sorted _)).1
theorem clean_mem (l : List Rng) (c k : Nat) : mem (clean l) c k ↔ mem l c k := (merged l _ (isort_perm _) (isort_sorted _)).2 c k
/-- Whichever way the right ones were sorted. -/
theorem merged_clean (l d : List Rng) (hp : d.Perm (l.filter Rng.right)) (hs : d.Pairwise Rng.le) : (d.foldl mg []).reverse = clean l :=
  canon_unique (merged l d hp hs).1 (clean_canon l) fun c k => by rw [(merged l d hp hs).2, clean_mem]
theorem clean_eq {l l' : List Rng} (h : ∀ c k, mem l c k ↔ mem l' c k) : clean l = clean l' := canon_unique (clean_canon _) (clean_canon _) fun c k => by rw [clean_mem, clean_mem, h]
theorem clean_of_canon {l : List Rng} (h : Canon l) : clean l = l := canon_unique (clean_canon _) h fun c k => clean_mem l c k
theorem clean_clean (l : List Rng) : clean (clean l) = clean l := clean_of_canon (clean_canon l)
theorem mg_len (r : List Rng) (x : Rng) : (mg r x).length ≤ r.length + 1 := by
  cases r with
  | nil => simp [mg]
  | cons y r => rw [mg_cons]; split <;> simp
theorem foldl_mg_len : ∀ (l r : List Rng), (l.foldl mg r).length ≤ r.length + l.length
  | [], r => by simp
  | x :: l, r => by
    have := foldl_mg_len l (mg r x)
    have := mg_len r x
    simp only [List.foldl_cons, List.length_cons]
    omega
theorem clean_len (l : List Rng) : (clean l).length ≤ l.length := by
  unfold clean
  rw [List.length_reverse]
  have h1 := foldl_mg_len (isort (l.filter Rng.right)) []
  have h2 := (isort_perm (l.filter Rng.right)).length_eq
  have h3 := List.length_filter_le Rng.right l
  simp only [List.length_nil, Nat.zero_add] at h1
  omega
/-! ### Put in at a place that was looked for -/
theorem lt_of_lt_le {x y z : Rng} (h : x.lt y = true) (h' : y.le z) : x.lt z = true := by
  rw [lt_iff] at *; rcases h' with h' | h' <;> omega
theorem not_lt_of_le {x y z : Rng} (h : ¬ x.lt y = true) (h' : z.le y) : ¬ x.lt z = true := fun hh => h (lt_of_lt_le hh h')
theorem put_sorted {x : Rng} {d : List Rng} {k : Nat} (hd : d.Pairwise Rng.le) (h1 : ∀ j (h : j < d.length), j < k → ¬ x.lt d[j] = true) (h2 : ∀ j (h : j < d.length), k ≤ j → x.lt d[j] = true) : (d.take k ++ x :: d.drop k).Pairwise Rng.le := by
  have hsplit : (d.take k ++ d.drop k).Pairwise Rng.le := by rw [List.take_append_drop]; exact hd
  rw [List.pairwise_append] at hsplit
  obtain ⟨p1, p2, p3⟩ := hsplit
  have f1 : ∀ a ∈ d.take k, a.le x := fun a ha => by
    obtain ⟨j, hj, rfl⟩ := List.mem_iff_getElem.1 ha
    rw [List.getElem_take]
    have : j < k ∧ j < d.length := by rw [List.length_take] at hj; omega
    exact le_of_not_lt (h1 j this.2 this.1)
  have f2 : ∀ a ∈ d.drop k, x.le a := fun a ha => by
    obtain ⟨j, hj, rfl⟩ := List.mem_iff_getElem.1 ha
    rw [List.getElem_drop]
    have hj' : k + j < d.length := by rw [List.length_drop] at hj; omega
    have := lt_iff.1 (h2 (k + j) hj' (by omega))
    simp only [Rng.le]; omega
  rw [List.pairwise_append]
  refine ⟨p1, List.pairwise_cons.2 ⟨f2, p2⟩, fun a ha b hb => ?_⟩
  rcases List.mem_cons.1 hb with rfl | hb
  · exact f1 a ha
  · exact p3 a ha b hb
theorem put_perm (x : Rng) (d : List Rng) (k : Nat) : (d.take k ++ x :: d.drop k).Perm (d ++ [x]) := by
  refine List.perm_middle.trans ?_
  rw [List.take_append_drop]
  exact (List.perm_append_comm (l₁ := [x]) (l₂ := d))
theorem sorted_at {d : List Rng} (hd : d.Pairwise Rng.le) {i j : Nat} (hj : j < d.length) (h : i ≤ j) : (d[i]'(by omega)).le d[j] := by
  rcases Nat.lt_or_eq_of_le h with h | h
  · exact List.pairwise_iff_getElem.1 hd i j _ _ h
  · subst h; exact .inr ⟨rfl, Nat.le_refl _⟩
end Go.Ids
