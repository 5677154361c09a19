/- Rows in which places are exchanged; ranges exchanged, rotated, merged: in plain lists. No program, no conditions. -/
import Derived.Sort.Statements
namespace Go.Mrg
open Go.Sort
variable {α : Type}
/-- Two places exchanged. -/
def sw (l : List α) (p q : Nat) : List α :=
  match l[p]?, l[q]? with
  | some x, some y => (l.set p y).set q x
  | _, _ => l
theorem sw_of {l : List α} {p q : Nat} (hp : p < l.length) (hq : q < l.length) : sw l p q = (l.set p l[q]).set q l[p] := by
  unfold sw
  rw [List.getElem?_eq_getElem hp, List.getElem?_eq_getElem hq]
theorem sw_len (l : List α) (p q : Nat) : (sw l p q).length = l.length := by
  unfold sw
  split <;> simp
theorem sw_get {l : List α} {p q : Nat} (hp : p < l.length) (hq : q < l.length) (k : Nat) : (sw l p q)[k]? = if k = q then l[p]? else if k = p then l[q]? else l[k]? := by
  rw [sw_of hp hq]
  by_cases h1 : k = q
  · subst h1
    rw [if_pos rfl, List.getElem?_set_self (by simpa using hq), List.getElem?_eq_getElem hp]
  · rw [if_neg h1, List.getElem?_set_ne (Ne.symm h1)]
    by_cases h2 : k = p
    · subst h2
      rw [if_pos rfl, List.getElem?_set_self hp, List.getElem?_eq_getElem hq]
    · rw [if_neg h2, List.getElem?_set_ne (Ne.symm h2)]
theorem set_perm_aux : ∀ (l : List α) (q : Nat) (x : α) (hq : q < l.length), (l[q] :: l.set q x).Perm (x :: l)
  | y :: l, 0, x, _ => by simpa using List.Perm.swap x y l
  | y :: l, q + 1, x, hq => by
    have hq : q < l.length := by simpa using hq
    have := set_perm_aux l q x hq
    have h1 : (l[q] :: y :: l.set q x).Perm (y :: l[q] :: l.set q x) := List.Perm.swap _ _ _
    have h2 : (y :: l[q] :: l.set q x).Perm (y :: x :: l) := this.cons y
    simpa using h1.trans (h2.trans (List.Perm.swap _ _ _))
theorem sw_perm (l : List α) (p q : Nat) : (sw l p q).Perm l := by
  unfold sw
  split
  · rename_i x y hx hy
    obtain ⟨hp, rfl⟩ := List.getElem?_eq_some_iff.1 hx
    obtain ⟨hq, rfl⟩ := List.getElem?_eq_some_iff.1 hy
    have h1 := set_perm_aux l p l[q] hp
    have h2 := set_perm_aux (l.set p l[q]) q l[p] (by simpa using hq)
    have h3 : (l.set p l[q])[q]'(by simpa using hq) = l[q] := by
      by_cases h : p = q
      · subst h; simp
      · rw [List.getElem_set_ne h]
    rw [h3] at h2
    exact List.Perm.cons_inv (h2.trans h1)
  · exact List.Perm.refl _
/-- What is done within a stretch alone. -/
structure Seg (a b : Nat) (l l' : List α) : Prop where
  perm : l'.Perm l
  out : ∀ k, k < a ∨ b ≤ k → l'[k]? = l[k]?
  all : ∀ p : α → Prop, (∀ k x, a ≤ k → k < b → l[k]? = some x → p x) → ∀ k x, a ≤ k → k < b → l'[k]? = some x → p x
theorem Seg.refl (a b : Nat) (l : List α) : Seg a b l l := ⟨List.Perm.refl _, fun _ _ => rfl, fun _ h => h⟩
theorem Seg.trans {a b : Nat} {l l' l'' : List α} (h : Seg a b l l') (h' : Seg a b l' l'') : Seg a b l l'' :=
  ⟨h'.perm.trans h.perm, fun k hk => (h'.out k hk).trans (h.out k hk), fun p hp => h'.all p (h.all p hp)⟩
theorem Seg.len {a b : Nat} {l l' : List α} (h : Seg a b l l') : l'.length = l.length := h.perm.length_eq
theorem Seg.mono {a b a' b' : Nat} {l l' : List α} (h : Seg a b l l') (h1 : a' ≤ a) (h2 : b ≤ b') : Seg a' b' l l' := by
  refine ⟨h.perm, fun k hk => h.out k (by omega), fun p hp k x hk1 hk2 hx => ?_⟩
  by_cases hk : a ≤ k ∧ k < b
  · exact h.all p (fun k x g1 g2 => hp k x (by omega) (by omega)) k x hk.1 hk.2 hx
  · rw [h.out k (by omega)] at hx
    exact hp k x hk1 hk2 hx
theorem Seg.sw {a b p q : Nat} {l : List α} (hp : a ≤ p ∧ p < b) (hq : a ≤ q ∧ q < b) (hb : b ≤ l.length) : Seg a b l (sw l p q) := by
  have g := sw_get (l := l) (p := p) (q := q) (by omega) (by omega)
  refine ⟨sw_perm _ _ _, fun k hk => ?_, fun P hP k x hk1 hk2 hx => ?_⟩
  · rw [g, if_neg (by omega), if_neg (by omega)]
  · rw [g] at hx
    split at hx
    · exact hP p x hp.1 hp.2 hx
    · split at hx
      · exact hP q x hq.1 hq.2 hx
      · exact hP k x hk1 hk2 hx
/-- Two ranges of n places exchanged, one behind the other. -/
def swr (l : List α) (a b : Nat) : Nat → List α
  | 0 => l
  | n + 1 => sw (swr l a b n) (a + n) (b + n)
theorem swr_len (l : List α) (a b : Nat) : ∀ n, (swr l a b n).length = l.length
  | 0 => rfl
  | n + 1 => by show (sw _ _ _).length = _; rw [sw_len, swr_len l a b n]
theorem swr_get {l : List α} {a b : Nat} : ∀ {n : Nat}, a + n ≤ b → b + n ≤ l.length → ∀ k, (swr l a b n)[k]? = if a ≤ k ∧ k < a + n then l[k + (b - a)]? else if b ≤ k ∧ k < b + n then l[k - (b - a)]? else l[k]?
  | 0, _, _, k => by rw [if_neg (by omega), if_neg (by omega)]; rfl
  | n + 1, h1, h2, k => by
    have ih := swr_get (l := l) (a := a) (b := b) (n := n) (by omega) (by omega)
    have hl := swr_len l a b n
    show (sw (swr l a b n) (a + n) (b + n))[k]? = _
    rw [sw_get (by omega) (by omega), ih, ih, ih]
    by_cases c1 : k = b + n
    · subst c1
      rw [if_pos rfl, if_neg (by omega), if_neg (by omega), if_neg (by omega), if_pos (by omega)]
      congr 1; omega
    · rw [if_neg c1]
      by_cases c2 : k = a + n
      · subst c2
        rw [if_pos rfl, if_neg (by omega), if_neg (by omega), if_pos (by omega)]
        congr 1; omega
      · rw [if_neg c2]
        by_cases c3 : a ≤ k ∧ k < a + n
        · rw [if_pos c3, if_pos (by omega)]
        · rw [if_neg c3, if_neg (by omega : ¬ (a ≤ k ∧ k < a + (n + 1)))]
          by_cases c4 : b ≤ k ∧ k < b + n
          · rw [if_pos c4, if_pos (by omega)]
          · rw [if_neg c4, if_neg (by omega)]
theorem Seg.swr {l : List α} {a b lo hi : Nat} : ∀ {n : Nat}, lo ≤ a → a + n ≤ b → b + n ≤ hi → hi ≤ l.length → Seg lo hi l (swr l a b n)
  | 0, _, _, _, _ => Seg.refl _ _ _
  | n + 1, h0, h1, h2, h3 => by
    have ih := Seg.swr (l := l) (a := a) (b := b) (lo := lo) (hi := hi) (n := n) h0 (by omega) (by omega) h3
    exact ih.trans (Seg.sw ⟨by omega, by omega⟩ ⟨by omega, by omega⟩ (by rw [swr_len]; exact h3))
/-- What a rotation leaves: [m, m + j) stands ahead of [m - i, m). -/
def Rot (l l' : List α) (m i j : Nat) : Prop := ∀ k, l'[k]? = if m - i ≤ k ∧ k < m - i + j then l[k + i]? else if m - i + j ≤ k ∧ k < m + j then l[k - j]? else l[k]?
theorem Rot.last {l : List α} {m i : Nat} (hi : i ≤ m) (hb : m + i ≤ l.length) : Rot l (swr l (m - i) m i) m i i := by
  intro k
  rw [swr_get (by omega) hb]
  by_cases c1 : m - i ≤ k ∧ k < m - i + i
  · rw [if_pos c1, if_pos c1]; congr 1; omega
  · rw [if_neg c1, if_neg c1]
    by_cases c2 : m ≤ k ∧ k < m + i
    · rw [if_pos c2, if_pos (by omega)]; congr 1; omega
    · rw [if_neg c2, if_neg (by omega)]
theorem Rot.left {l l' : List α} {m i j : Nat} (hi : i ≤ m) (hij : j < i) (hb : m + j ≤ l.length) (h : Rot (swr l (m - i) m j) l' m (i - j) j) : Rot l l' m i j := by
  intro k
  have g := swr_get (l := l) (a := m - i) (b := m) (n := j) (by omega) hb
  rw [h k]
  by_cases c1 : m - (i - j) ≤ k ∧ k < m - (i - j) + j
  · rw [if_pos c1, g, if_neg (by omega), if_pos (by omega), if_neg (by omega), if_pos (by omega)]; congr 1; omega
  · rw [if_neg c1]
    by_cases c2 : m - (i - j) + j ≤ k ∧ k < m + j
    · rw [if_pos c2, g, if_neg (by omega), if_neg (by omega), if_neg (by omega), if_pos (by omega)]
    · rw [if_neg c2, g]
      by_cases c3 : m - i ≤ k ∧ k < m - i + j
      · rw [if_pos c3, if_pos c3]; congr 1; omega
      · rw [if_neg c3, if_neg c3, if_neg (by omega), if_neg (by omega)]
theorem Rot.right {l l' : List α} {m i j : Nat} (hi : i ≤ m) (hij : i < j) (hb : m + j ≤ l.length) (h : Rot (swr l (m - i) (m + j - i) i) l' m i (j - i)) : Rot l l' m i j := by
  intro k
  have g := swr_get (l := l) (a := m - i) (b := m + j - i) (n := i) (by omega) (by omega)
  rw [h k]
  by_cases c1 : m - i ≤ k ∧ k < m - i + (j - i)
  · rw [if_pos c1, g]
    by_cases c3 : k < m - i + j ∧ m ≤ k + i ∧ k + i < m + j - i
    · rw [if_neg (by omega), if_neg (by omega), if_pos (by omega)]
    · omega
  · rw [if_neg c1]
    by_cases c2 : m - i + (j - i) ≤ k ∧ k < m + (j - i)
    · rw [if_pos c2, g, if_pos (by omega)]
      by_cases c4 : k < m - i + j
      · rw [if_pos (by omega)]; congr 1; omega
      · omega
    · rw [if_neg c2, g]
      by_cases c3 : m - i ≤ k ∧ k < m - i + i
      · rw [if_pos c3]; omega
      · rw [if_neg c3]
        by_cases c4 : m + j - i ≤ k ∧ k < m + j - i + i
        · rw [if_pos c4, if_neg (by omega), if_pos (by omega)]; congr 1; omega
        · rw [if_neg c4, if_neg (by omega), if_neg (by omega)]
/-- Rising, from place a to place b. -/
def Up (lt : α → α → Bool) (l : List α) (a b : Nat) : Prop := ∀ i j x y, a ≤ i → i < j → j < b → l[i]? = some x → l[j]? = some y → lt y x = false
theorem Up.le {lt : α → α → Bool} (hS : SWO lt) {l : List α} {a b : Nat} (h : Up lt l a b) : ∀ i j x y, a ≤ i → i ≤ j → j < b → l[i]? = some x → l[j]? = some y → lt y x = false := fun i j x y h1 h2 h3 hx hy => by
  rcases Nat.lt_or_eq_of_le h2 with h4 | h4
  · exact h i j x y h1 h4 h3 hx hy
  · subst h4
    rw [hx] at hy
    cases hy
    exact hS.irrefl x
theorem Up.sub {lt : α → α → Bool} {l : List α} {a b a' b' : Nat} (h : Up lt l a b) (h1 : a ≤ a') (h2 : b' ≤ b) : Up lt l a' b' := fun i j x y g1 g2 g3 => h i j x y (by omega) g2 (by omega)
theorem Up.of_out {lt : α → α → Bool} {l l' : List α} {a b a' b' : Nat} (h : Up lt l a b) (hs : Seg a' b' l l') (hd : b ≤ a' ∨ b' ≤ a) : Up lt l' a b := fun i j x y g1 g2 g3 hx hy => by
  rw [hs.out i (by omega)] at hx
  rw [hs.out j (by omega)] at hy
  exact h i j x y g1 g2 g3 hx hy
theorem Up.one (lt : α → α → Bool) (l : List α) {a b : Nat} (h : b ≤ a + 1) : Up lt l a b := fun _ _ _ _ h1 h2 h3 => by omega
/-- Two halves, each rising, no one of the first above one of the second. -/
theorem Up.join {lt : α → α → Bool} {l : List α} {a m b : Nat} (h1 : Up lt l a m) (h2 : Up lt l m b) (h : ∀ i j x y, a ≤ i → i < m → m ≤ j → j < b → l[i]? = some x → l[j]? = some y → lt y x = false) : Up lt l a b := fun i j x y g1 g2 g3 hx hy => by
  by_cases c1 : j < m
  · exact h1 i j x y g1 g2 c1 hx hy
  · by_cases c2 : i < m
    · exact h i j x y g1 c2 (by omega) g3 hx hy
    · exact h2 i j x y (by omega) g2 g3 hx hy
/-- The halves sorted, one after the other. -/
theorem halves {lt : α → α → Bool} {l l1 l2 : List α} {a m b : Nat} (hs1 : Seg a m l l1) (hs2 : Seg m b l1 l2) (ham : a ≤ m) (hmb : m ≤ b) (u1 : Up lt l1 a m) (u2 : Up lt l2 m b)
    (h : ∀ i j x y, a ≤ i → i < m → m ≤ j → j < b → l[i]? = some x → l[j]? = some y → lt y x = false) : Seg a b l l2 ∧ Up lt l2 a b := by
  refine ⟨(hs1.mono (Nat.le_refl _) hmb).trans (hs2.mono ham (Nat.le_refl _)), Up.join (u1.of_out hs2 (.inl (Nat.le_refl _))) u2 ?_⟩
  intro i j x y g1 g2 g3 g4 hx hy
  rw [hs2.out i (.inl g2)] at hx
  have p1 := hs1.all (fun x => ∀ j y, m ≤ j → j < b → l1[j]? = some y → lt y x = false) (fun k x k1 k2 hk j y h1 h2 hy => by
    rw [hs1.out j (.inr h1)] at hy
    exact h k j x y k1 k2 h1 h2 hk hy) i x g1 g2 hx
  exact hs2.all (fun y => lt y x = false) (fun k y k1 k2 hk => p1 k y k1 k2 hk) j y g3 g4 hy
/-- What the search finds. -/
structure Found (lt : α → α → Bool) (l : List α) (n lo hi s : Nat) : Prop where
  le : lo ≤ s ∧ s ≤ hi
  low : s = lo ∨ ∃ x y, l[s - 1]? = some x ∧ l[n - s]? = some y ∧ lt y x = false
  high : s = hi ∨ ∃ x y, l[s]? = some x ∧ l[n - 1 - s]? = some y ∧ lt y x = true
theorem swo_asymm {lt : α → α → Bool} (hS : SWO lt) {x y : α} (h : lt x y = true) : lt y x = false := by
  rcases hyx : lt y x with _ | _
  · rfl
  · have := hS.trans x y x h hyx
    rw [hS.irrefl] at this; cases this
/-- Behind the rotation no one of the first half is above one of the second. -/
theorem merge_cross {lt : α → α → Bool} (hS : SWO lt) {l l' : List α} {a m b mid s lo hi : Nat} (ham : a < m) (hmid : mid = (a + b) / 2) (hA : Up lt l a m) (hB : Up lt l m b)
    (hlo : lo = if mid < m then mid + m - b else a) (hhi : hi = if mid < m then mid else m) (hf : Found lt l (mid + m) lo hi s)
    (hr : ∀ k, l'[k]? = if s ≤ k ∧ k < mid then l[k + (m - s)]? else if mid ≤ k ∧ k < mid + m - s then l[k - (mid - s)]? else l[k]?) :
    (∀ i j x y, a ≤ i → i < mid → mid ≤ j → j < b → l'[i]? = some x → l'[j]? = some y → lt y x = false) ∧ Up lt l' a s ∧ Up lt l' s mid ∧ Up lt l' mid (mid + m - s) ∧ Up lt l' (mid + m - s) b := by
  obtain ⟨⟨f1, f2⟩, f3, f4⟩ := hf
  have hlo' : a ≤ lo ∧ mid + m ≤ lo + b := by subst hlo; split <;> omega
  have hhi' : hi ≤ m ∧ hi ≤ mid := by subst hhi; split <;> omega
  have hge : m ≤ mid + m - s := by omega
  have hle : mid + m - s ≤ b := by omega
  refine ⟨fun i j x y g1 g2 g3 g4 hx hy => ?_, fun i j x y g1 g2 g3 hx hy => ?_, fun i j x y g1 g2 g3 hx hy => ?_, fun i j x y g1 g2 g3 hx hy => ?_, fun i j x y g1 g2 g3 hx hy => ?_⟩
  · rw [hr] at hx hy
    rw [if_neg (by omega)] at hy
    by_cases c1 : i < s
    · rw [if_neg (by omega), if_neg (by omega)] at hx
      by_cases c2 : j < mid + m - s
      · rw [if_pos (by omega)] at hy
        exact hA i (j - (mid - s)) x y g1 (by omega) (by omega) hx hy
      · rw [if_neg (by omega)] at hy
        rcases f3 with f3 | ⟨u, w, hu, hw, hlt⟩
        · exfalso; subst hlo; split at hlo' <;> split at f3 <;> omega
        · have e1 := hA.le hS i (s - 1) x u g1 (by omega) (by omega) hx hu
          have e2 := hB.le hS (mid + m - s) j w y (by omega) (by omega) g4 hw hy
          exact hS.ntrans y w x e2 (hS.ntrans w u x hlt e1)
    · rw [if_pos (by omega)] at hx
      by_cases c2 : j < mid + m - s
      · rw [if_pos (by omega)] at hy
        rcases f4 with f4 | ⟨u, w, hu, hw, hlt⟩
        · exfalso; subst hhi; split at hhi' <;> split at f4 <;> omega
        · have e1 := hA.le hS s (j - (mid - s)) u y (by omega) (by omega) (by omega) hu hy
          have e2 := hB.le hS (i + (m - s)) (mid + m - 1 - s) x w (by omega) (by omega) (by omega) hx hw
          exact hS.ntrans y u x e1 (hS.ntrans u w x (swo_asymm hS hlt) e2)
      · rw [if_neg (by omega)] at hy
        exact hB (i + (m - s)) j x y (by omega) (by omega) g4 hx hy
  · rw [hr, if_neg (by omega), if_neg (by omega)] at hx hy
    exact hA i j x y g1 g2 (by omega) hx hy
  · rw [hr, if_pos (by omega)] at hx hy
    exact hB _ _ x y (by omega) (by omega) (by omega) hx hy
  · rw [hr, if_neg (by omega), if_pos (by omega)] at hx hy
    exact hA _ _ x y (by omega) (by omega) (by omega) hx hy
  · rw [hr, if_neg (by omega), if_neg (by omega)] at hx hy
    exact hB _ _ x y (by omega) g2 g3 hx hy
/-- One moved up, over those behind it; one moved down. -/
def MvU (l0 : List α) (a k : Nat) (l : List α) : Prop := ∀ p, l[p]? = if a ≤ p ∧ p < k then l0[p + 1]? else if p = k then l0[a]? else l0[p]?
def MvD (l0 : List α) (m k : Nat) (l : List α) : Prop := ∀ p, l[p]? = if k < p ∧ p ≤ m then l0[p - 1]? else if p = k then l0[m]? else l0[p]?
theorem MvU.start (l : List α) (a : Nat) : MvU l a a l := fun p => by
  rw [if_neg (by omega)]
  split
  · rename_i h; rw [h]
  · rfl
theorem MvD.start (l : List α) (m : Nat) : MvD l m m l := fun p => by
  rw [if_neg (by omega)]
  split
  · rename_i h; rw [h]
  · rfl
theorem MvU.step {l0 l : List α} {a k : Nat} (h : MvU l0 a k l) (ha : a ≤ k) (hk : k + 1 < l.length) : MvU l0 a (k + 1) (sw l k (k + 1)) := fun p => by
  rw [sw_get (by omega) hk]
  by_cases c1 : p = k + 1
  · subst c1
    rw [if_pos rfl, if_neg (by omega), if_pos rfl, h k, if_neg (by omega), if_pos rfl]
  · rw [if_neg c1]
    by_cases c2 : p = k
    · subst c2
      rw [if_pos rfl, h, if_neg (by omega), if_neg (by omega), if_pos (by omega)]
    · rw [if_neg c2, h, if_neg c2, if_neg c1]
      by_cases c3 : a ≤ p ∧ p < k
      · rw [if_pos c3, if_pos (by omega)]
      · rw [if_neg c3, if_neg (by omega)]
theorem MvD.step {l0 l : List α} {m k : Nat} (h : MvD l0 m (k + 1) l) (hm : k + 1 ≤ m) (hk : k + 1 < l.length) : MvD l0 m k (sw l (k + 1) k) := fun p => by
  rw [sw_get hk (by omega)]
  by_cases c1 : p = k
  · subst c1
    rw [if_pos rfl, if_neg (by omega), if_pos rfl, h, if_neg (by omega), if_pos rfl]
  · rw [if_neg c1]
    by_cases c2 : p = k + 1
    · subst c2
      rw [if_pos rfl, h, if_neg (by omega), if_neg (by omega), if_pos (by omega)]
      rfl
    · rw [if_neg c2, h, if_neg c1, if_neg c2]
      by_cases c3 : k + 1 < p ∧ p ≤ m
      · rw [if_pos c3, if_pos (by omega)]
      · rw [if_neg c3, if_neg (by omega)]
/-- What a search in halves keeps, of a test that turns once. -/
structure Srch (Q : Nat → Bool) (lo hi i j : Nat) : Prop where
  le : lo ≤ i ∧ i ≤ j ∧ j ≤ hi
  low : i = lo ∨ Q (i - 1) = false
  high : j = hi ∨ Q j = true
theorem Srch.start (Q : Nat → Bool) {lo hi : Nat} (h : lo ≤ hi) : Srch Q lo hi lo hi := ⟨⟨Nat.le_refl _, h, Nat.le_refl _⟩, .inl rfl, .inl rfl⟩
theorem Srch.up {Q : Nat → Bool} {lo hi i j k : Nat} (h : Srch Q lo hi i j) (h1 : i ≤ k) (h2 : k < j) (hq : Q k = false) : Srch Q lo hi (k + 1) j := by
  have := h.le
  exact ⟨⟨by omega, by omega, by omega⟩, .inr (by simpa using hq), h.high⟩
theorem Srch.down {Q : Nat → Bool} {lo hi i j k : Nat} (h : Srch Q lo hi i j) (h1 : i ≤ k) (h2 : k < j) (hq : Q k = true) : Srch Q lo hi i k := by
  have := h.le
  exact ⟨⟨by omega, by omega, by omega⟩, h.low, .inr hq⟩
theorem some_of {l : List α} {i : Nat} (h : i < l.length) : ∃ x, l[i]? = some x := ⟨_, List.getElem?_eq_getElem h⟩
/-- One put into those behind it. -/
theorem ins_up {lt : α → α → Bool} (hS : SWO lt) {l l' : List α} {a b i : Nat} {x : α} (hx : l[a]? = some x) (hi : a + 1 ≤ i) (hib : i ≤ b) (hU : Up lt l (a + 1) b)
    (h1 : i = a + 1 ∨ ∃ y, l[i - 1]? = some y ∧ lt y x = true) (h2 : i = b ∨ ∃ y, l[i]? = some y ∧ lt y x = false) (hm : MvU l a (i - 1) l') : Up lt l' a b := by
  intro p q u w g1 g2 g3 hu hw
  rw [hm] at hu hw
  have hlow : ∀ k y, a + 1 ≤ k → k < i → l[k]? = some y → lt x y = false := fun k y k1 k2 hk => by
    rcases h1 with h1 | ⟨z, hz, hzx⟩
    · omega
    · have e1 := hU.le hS k (i - 1) y z k1 (by omega) (by omega) hk hz
      exact hS.ntrans x z y (swo_asymm hS hzx) e1
  have hhigh : ∀ k y, i ≤ k → k < b → l[k]? = some y → lt y x = false := fun k y k1 k2 hk => by
    rcases h2 with h2 | ⟨z, hz, hzx⟩
    · omega
    · have e1 := hU.le hS i k z y (by omega) k1 k2 hz hk
      exact hS.ntrans y z x e1 hzx
  by_cases c1 : p < i - 1
  · rw [if_pos ⟨g1, c1⟩] at hu
    by_cases c2 : q < i - 1
    · rw [if_pos ⟨by omega, c2⟩] at hw
      exact hU (p + 1) (q + 1) u w (by omega) (by omega) (by omega) hu hw
    · rw [if_neg (by omega)] at hw
      by_cases c3 : q = i - 1
      · rw [if_pos c3, hx] at hw
        cases hw
        exact hlow (p + 1) u (by omega) (by omega) hu
      · rw [if_neg c3] at hw
        exact hU (p + 1) q u w (by omega) (by omega) g3 hu hw
  · rw [if_neg (by omega)] at hu
    rw [if_neg (by omega), if_neg (by omega)] at hw
    by_cases c3 : p = i - 1
    · rw [if_pos c3, hx] at hu
      cases hu
      exact hhigh q w (by omega) g3 hw
    · rw [if_neg c3] at hu
      exact hU p q u w (by omega) g2 g3 hu hw
/-- One put into those ahead of it. -/
theorem ins_down {lt : α → α → Bool} (hS : SWO lt) {l l' : List α} {a m i : Nat} {x : α} (hx : l[m]? = some x) (hi : a ≤ i) (him : i ≤ m) (hU : Up lt l a m)
    (h1 : i = a ∨ ∃ y, l[i - 1]? = some y ∧ lt x y = false) (h2 : i = m ∨ ∃ y, l[i]? = some y ∧ lt x y = true) (hm : MvD l m i l') : Up lt l' a (m + 1) := by
  intro p q u w g1 g2 g3 hu hw
  rw [hm] at hu hw
  have hlow : ∀ k y, a ≤ k → k < i → l[k]? = some y → lt x y = false := fun k y k1 k2 hk => by
    rcases h1 with h1 | ⟨z, hz, hzx⟩
    · omega
    · have e1 := hU.le hS k (i - 1) y z k1 (by omega) (by omega) hk hz
      exact hS.ntrans x z y hzx e1
  have hhigh : ∀ k y, i ≤ k → k < m → l[k]? = some y → lt y x = false := fun k y k1 k2 hk => by
    rcases h2 with h2 | ⟨z, hz, hzx⟩
    · omega
    · have e1 := hU.le hS i k z y (by omega) k1 k2 hz hk
      exact hS.ntrans y z x e1 (swo_asymm hS hzx)
  by_cases c1 : i < q
  · rw [if_pos ⟨c1, by omega⟩] at hw
    by_cases c2 : i < p
    · rw [if_pos ⟨c2, by omega⟩] at hu
      exact hU (p - 1) (q - 1) u w (by omega) (by omega) (by omega) hu hw
    · rw [if_neg (by omega)] at hu
      by_cases c3 : p = i
      · rw [if_pos c3, hx] at hu
        cases hu
        exact hhigh (q - 1) w (by omega) (by omega) hw
      · rw [if_neg c3] at hu
        exact hU p (q - 1) u w (by omega) (by omega) (by omega) hu hw
  · rw [if_neg (by omega)] at hw
    rw [if_neg (by omega), if_neg (by omega)] at hu
    by_cases c3 : q = i
    · rw [if_pos c3, hx] at hw
      cases hw
      exact hlow p u g1 (by omega) hu
    · rw [if_neg c3] at hw
      exact hU p q u w g1 g2 (by omega) hu hw
/-- What the insertion sort's inner loop keeps. -/
structure Ins (lt : α → α → Bool) (l : List α) (a j n : Nat) : Prop where
  below : Up lt l a j
  above : Up lt l j n
  cross : ∀ p q x y, a ≤ p → p < j → j < q → q < n → l[p]? = some x → l[q]? = some y → lt y x = false
theorem Ins.start {lt : α → α → Bool} {l : List α} {a i : Nat} (h : Up lt l a i) : Ins lt l a i (i + 1) := ⟨h, Up.one _ _ (by omega), fun _ _ _ _ _ _ _ _ _ => by omega⟩
theorem Ins.step {lt : α → α → Bool} (hS : SWO lt) {l : List α} {a j n : Nat} {x y : α} (h : Ins lt l a (j + 1) n) (haj : a ≤ j) (hjn : j + 1 < n) (hn : n ≤ l.length) (hx : l[j]? = some x) (hy : l[j + 1]? = some y) (hlt : lt y x = true) : Ins lt (sw l (j + 1) j) a j n := by
  have g := sw_get (l := l) (p := j + 1) (q := j) (by omega) (by omega)
  have hyx := swo_asymm hS hlt
  refine ⟨fun p q u w g1 g2 g3 hu hw => ?_, fun p q u w g1 g2 g3 hu hw => ?_, fun p q u w g1 g2 g3 g4 hu hw => ?_⟩
  · rw [g, if_neg (by omega), if_neg (by omega)] at hu hw
    exact h.below p q u w g1 g2 (by omega) hu hw
  · rw [g] at hu hw
    rw [if_neg (by omega)] at hw
    by_cases c1 : p = j
    · rw [if_pos c1, hy] at hu
      cases hu
      by_cases c2 : q = j + 1
      · rw [if_pos c2, hx] at hw
        cases hw
        exact hyx
      · rw [if_neg c2] at hw
        exact h.above (j + 1) q _ w (by omega) (by omega) g3 hy hw
    · rw [if_neg c1] at hu
      rw [if_neg (by omega)] at hw
      by_cases c2 : p = j + 1
      · rw [if_pos c2, hx] at hu
        cases hu
        exact h.cross j q _ w haj (by omega) (by omega) g3 hx hw
      · rw [if_neg c2] at hu
        exact h.above p q u w (by omega) g2 g3 hu hw
  · rw [g, if_neg (by omega), if_neg (by omega)] at hu
    rw [g, if_neg (by omega)] at hw
    by_cases c2 : q = j + 1
    · rw [if_pos c2, hx] at hw
      cases hw
      exact h.below p j u _ g1 (by omega) (by omega) hu hx
    · rw [if_neg c2] at hw
      exact h.cross p q u w g1 (by omega) (by omega) g4 hu hw
theorem Ins.done_low {lt : α → α → Bool} {l : List α} {a n : Nat} (h : Ins lt l a a n) : Up lt l a n := h.above
theorem Ins.done {lt : α → α → Bool} (hS : SWO lt) {l : List α} {a j n : Nat} {x y : α} (h : Ins lt l a (j + 1) n) (hx : l[j]? = some x) (hy : l[j + 1]? = some y) (hlt : lt y x = false) : Up lt l a n := by
  refine Up.join h.below h.above fun p q u w g1 g2 g3 g4 hu hw => ?_
  have e1 := h.below.le hS p j u x g1 (by omega) (by omega) hu hx
  have e2 := h.above.le hS (j + 1) q y w (by omega) g3 g4 hy hw
  exact hS.ntrans w y u e2 (hS.ntrans y x u hlt e1)
/-- Whole blocks of B places that are sorted; from the block p0 on, the last one cut off. -/
def Done (lt : α → α → Bool) (B : Nat) (l : List α) (q : Nat) : Prop := ∀ p, p < q → Up lt l (p * B) (p * B + B)
def Rest (lt : α → α → Bool) (B : Nat) (l : List α) (n p0 : Nat) : Prop := ∀ p, p0 ≤ p → Up lt l (p * B) (min (p * B + B) n)
theorem blk_le {p q : Nat} (B : Nat) (h : p < q) : p * B + B ≤ q * B := by
  have := Nat.mul_le_mul_right B h
  rwa [Nat.succ_mul] at this
theorem Done.zero (lt : α → α → Bool) (B : Nat) (l : List α) : Done lt B l 0 := fun p hp => by omega
theorem Done.next {lt : α → α → Bool} {B q n : Nat} {l l' : List α} (h : Done lt B l q) (hs : Seg (q * B) n l l') (hu : Up lt l' (q * B) (q * B + B)) : Done lt B l' (q + 1) := fun p hp => by
  rcases Nat.lt_or_eq_of_le (Nat.le_of_lt_succ hp) with h1 | h1
  · exact (h p h1).of_out hs (.inl (blk_le B h1))
  · subst h1; exact hu
theorem Done.last {lt : α → α → Bool} {B q n : Nat} {l l' : List α} (h : Done lt B l q) (hs : Seg (q * B) n l l') (hu : Up lt l' (q * B) n) (h1 : q * B ≤ n) (h2 : n < q * B + B) : Rest lt B l' n 0 := fun p _ => by
  rcases Nat.lt_trichotomy p q with h3 | h3 | h3
  · have := blk_le B h3
    rw [Nat.min_eq_left (by omega)]
    exact (h p h3).of_out hs (.inl (by omega))
  · subst h3
    rw [Nat.min_eq_right (by omega)]
    exact hu
  · have := blk_le B h3
    exact Up.one _ _ (by omega)
theorem Rest.two {lt : α → α → Bool} {B q n : Nat} {l : List α} (h : Rest lt B l n (2 * q)) : Up lt l (q * (2 * B)) (min (q * (2 * B) + B) n) ∧ Up lt l (q * (2 * B) + B) (min (q * (2 * B) + B + B) n) := by
  have e1 : 2 * q * B = q * (2 * B) := by rw [Nat.mul_comm 2 q, Nat.mul_assoc]
  have e2 : (2 * q + 1) * B = q * (2 * B) + B := by rw [Nat.succ_mul, e1]
  have h1 := h (2 * q) (Nat.le_refl _)
  have h2 := h (2 * q + 1) (by omega)
  rw [e1] at h1
  rw [e2] at h2
  exact ⟨h1, h2⟩
theorem Rest.next {lt : α → α → Bool} {B q n lo : Nat} {l l' : List α} (h : Rest lt B l n (2 * q)) (hs : Seg lo (q * (2 * B) + 2 * B) l l') : Rest lt B l' n (2 * (q + 1)) := fun p hp => by
  have e1 : 2 * (q + 1) * B = q * (2 * B) + 2 * B := by rw [Nat.mul_comm 2 (q + 1), Nat.mul_assoc, Nat.succ_mul]
  have := Nat.mul_le_mul_right B hp
  rw [e1] at this
  exact (h p (by omega)).of_out hs (.inr this)
theorem Rest.all {lt : α → α → Bool} {B n : Nat} {l : List α} (h : Rest lt B l n 0) (hB : n ≤ B) : Up lt l 0 n := by
  have := h 0 (Nat.le_refl _)
  rwa [Nat.zero_mul, Nat.zero_add, Nat.min_eq_right hB] at this
end Go.Mrg
