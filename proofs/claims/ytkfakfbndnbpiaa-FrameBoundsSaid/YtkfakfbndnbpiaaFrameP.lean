/- Frames in plain lists: what is written, what a stream tells. No program, no conditions. -/
import Derived.Test.YtkfakfbndnbpiaaNumP
import Derived.Test.YtkfakfbndnbpiaaCrcP
namespace Go.Ev
open Go.RowKit

/-- The sum's four bytes. -/
def s4 (x : BitVec 32) : List UInt8 := [UInt8.ofNat (x >>> 24).toNat, UInt8.ofNat (x >>> 16).toNat, UInt8.ofNat (x >>> 8).toNat, UInt8.ofNat x.toNat]
/-- A frame. -/
def frm (l : List UInt8) : List UInt8 := encU l.length ++ l ++ s4 (crc l)
/-- The next frame of a stream, and how many bytes it has; 0: it may become one. -/
def nextF (b : List UInt8) : Except Int (List UInt8 × Nat) := match rdU 18446744073709551615 0 0 (b.take 10) with
  | .error k => .error (if k = 10 then 0 else 11)
  | .ok (n, rest) =>
    if 1048576 < n then .error 210
    else if b.length < (b.take 10).length - rest.length + n + 4 then .error 0
    else if frm ((b.drop ((b.take 10).length - rest.length)).take n) = b.take ((b.take 10).length - rest.length + n + 4) then .ok ((b.drop ((b.take 10).length - rest.length)).take n, (b.take 10).length - rest.length + n + 4)
    else .error 11
theorem encU_pos (n : Nat) : 0 < (encU n).length := by
  rw [encU]; split <;> simp
theorem encU_len3 {n : Nat} (h : n ≤ 1048576) : (encU n).length ≤ 3 := encU_len 2 n (by omega)
theorem frm_len (l : List UInt8) : (frm l).length = (encU l.length).length + l.length + 4 := by simp [frm, s4]; omega
theorem rdU_prefix (most : Nat) : ∀ (p : List UInt8) (d i n : Nat) (q : List UInt8), encU d = p ++ q → q ≠ [] → i + p.length ≤ 9 → rdU most i n p = .error 10
  | [], d, i, n, q, _, _, _ => rfl
  | b :: p, d, i, n, q, h, hq, hi => by
    by_cases hs : d < 128
    · rw [encU_small hs] at h
      simp at h
      exact absurd h.2.2 hq
    · rw [encU_big (by omega)] at h
      simp only [List.cons_append, List.cons.injEq] at h
      obtain ⟨rfl, h⟩ := h
      have e : (UInt8.ofNat (d % 128 + 128)).toNat = d % 128 + 128 := by rw [UInt8.toNat_ofNat', Nat.mod_eq_of_lt (by omega)]
      simp only [List.length_cons] at hi
      unfold rdU
      rw [e, if_neg (by omega), if_pos (by omega)]
      exact rdU_prefix most p (d / 128) (i + 1) _ q h hq (by omega)
/-- With a whole head ahead. -/
theorem nextF_head {n : Nat} (hn : n ≤ 1048576) (r : List UInt8) : nextF (encU n ++ r) =
    if r.length < n + 4 then .error 0 else if frm (r.take n) = encU n ++ r.take (n + 4) then .ok (r.take n, (encU n).length + n + 4) else .error 11 := by
  have h3 := encU_len3 hn
  have ht : (encU n ++ r).take 10 = encU n ++ r.take (10 - (encU n).length) := by rw [List.take_append, List.take_of_length_le (by omega)]
  unfold nextF
  rw [ht, rdU_back _ (by omega) (by omega)]
  simp only
  have hh : (encU n ++ r.take (10 - (encU n).length)).length - (r.take (10 - (encU n).length)).length = (encU n).length := by rw [List.length_append]; omega
  rw [hh, if_neg (by omega), List.drop_left, List.length_append]
  have htk : (encU n ++ r).take ((encU n).length + n + 4) = encU n ++ r.take (n + 4) := by
    rw [List.take_append, List.take_of_length_le (by omega)]
    congr 2; omega
  rw [htk]
  by_cases h : r.length < n + 4
  · rw [if_pos h, if_pos (by omega)]
  · rw [if_neg h, if_neg (by omega)]
theorem nextF_frm (x : List UInt8) (hx : x.length ≤ 1048576) (r : List UInt8) : nextF (frm x ++ r) = .ok (x, (frm x).length) := by
  have h : frm x ++ r = encU x.length ++ (x ++ (s4 (crc x) ++ r)) := by simp [frm, List.append_assoc]
  have h4 : (s4 (crc x)).length = 4 := rfl
  rw [h, nextF_head hx, if_neg (by simp [h4]), List.take_left]
  have ht : (x ++ (s4 (crc x) ++ r)).take (x.length + 4) = x ++ s4 (crc x) := by
    rw [← List.append_assoc]
    exact List.take_left' (by simp [h4])
  rw [ht, if_pos (by simp [frm, List.append_assoc]), frm_len]
/-- A part of what begins with a head and has not enough behind it. -/
theorem nextF_part {n : Nat} (hn : n ≤ 1048576) {t p q : List UInt8} (ht : t.length = n + 4) (h : encU n ++ t = p ++ q) (hq : q ≠ []) : nextF p = .error 0 := by
  have h3 := encU_len3 hn
  have hql : 0 < q.length := List.length_pos_iff.2 hq
  have hlen : (encU n).length + t.length = p.length + q.length := by simpa using congrArg List.length h
  rcases Nat.lt_or_ge p.length (encU n).length with hp | hp
  · have hpre : encU n = p ++ (encU n).drop p.length := by
      have := congrArg (List.take p.length) h
      rw [List.take_left, List.take_append_of_le_length (by omega)] at this
      conv => lhs; rw [← List.take_append_drop p.length (encU n), this]
    have hd : (encU n).drop p.length ≠ [] := by
      intro h0
      have := congrArg List.length h0
      simp at this; omega
    unfold nextF
    rw [List.take_of_length_le (by omega), rdU_prefix _ p n 0 0 _ hpre hd (by omega)]
    rfl
  · have hsp : p = encU n ++ p.drop (encU n).length := by
      have := congrArg (List.take (encU n).length) h
      rw [List.take_left, List.take_append_of_le_length hp] at this
      conv => lhs; rw [← List.take_append_drop (encU n).length p, ← this]
    rw [hsp, nextF_head hn, if_pos]
    simp; omega
theorem nextF_short {x p q : List UInt8} (hx : x.length ≤ 1048576) (h : frm x = p ++ q) (hq : q ≠ []) : nextF p = .error 0 := by
  refine nextF_part hx (t := x ++ s4 (crc x)) (by simp [s4]) ?_ hq
  rw [← h]; simp [frm, List.append_assoc]
theorem nextF_nil : nextF [] = .error 0 := rfl
theorem u8_byte {a b : Nat} (h : UInt8.ofNat a = UInt8.ofNat b) : a % 256 = b % 256 := by
  have := congrArg UInt8.toNat h
  rwa [UInt8.toNat_ofNat', UInt8.toNat_ofNat'] at this
theorem s4_inj {x y : BitVec 32} (h : s4 x = s4 y) : x = y := by
  unfold s4 at h
  simp only [List.cons.injEq, and_true] at h
  obtain ⟨h1, h2, h3, h4⟩ := h
  have h1 := u8_byte h1
  have h2 := u8_byte h2
  have h3 := u8_byte h3
  have h4 := u8_byte h4
  rw [BitVec.toNat_ushiftRight, BitVec.toNat_ushiftRight, Nat.shiftRight_eq_div_pow, Nat.shiftRight_eq_div_pow] at h1 h2 h3
  have := x.isLt
  have := y.isLt
  apply BitVec.eq_of_toNat_eq
  omega
/-- What a stream tells: frames, then perhaps a failure. -/
def Tells : List (List UInt8) → Int → List UInt8 → Prop
  | [], bad, s => (bad = 0 ∧ s = []) ∨ (bad ≠ 0 ∧ ∃ f s', s = f ++ s' ∧ (∀ p q, f = p ++ q → q ≠ [] → nextF p = .error 0) ∧ ∀ r, nextF (f ++ r) = .error bad)
  | x :: outs, bad, s => ∃ f s', s = f ++ s' ∧ f ≠ [] ∧ (∀ p q, f = p ++ q → q ≠ [] → nextF p = .error 0) ∧ (∀ r, nextF (f ++ r) = .ok (x, f.length)) ∧ Tells outs bad s'
theorem append_cases {f s p q : List UInt8} (h : f ++ s = p ++ q) : (∃ r, p = f ++ r ∧ s = r ++ q) ∨ ∃ r, r ≠ [] ∧ f = p ++ r := by
  rcases List.append_eq_append_iff.1 h with ⟨a, h1, h2⟩ | ⟨a, h1, h2⟩
  · exact .inl ⟨a, h1, h2⟩
  · by_cases ha : a = []
    · subst ha
      exact .inl ⟨[], by simpa using h1.symm, by simpa using h2.symm⟩
    · exact .inr ⟨a, ha, h1⟩
/-- What one reading of the part that was fed tells. -/
theorem Tells.next {outs : List (List UInt8)} {bad : Int} {p q : List UInt8} (h : Tells outs bad (p ++ q)) :
    (nextF p = .error 0) ∨ (∃ x o k, outs = x :: o ∧ nextF p = .ok (x, k) ∧ k ≤ p.length ∧ 0 < k ∧ Tells o bad (p.drop k ++ q)) ∨ (outs = [] ∧ bad ≠ 0 ∧ nextF p = .error bad) := by
  cases outs with
  | nil =>
    rcases h with ⟨_, h⟩ | ⟨hb, f, s', h, hsh, hbad⟩
    · have : p = [] := by cases p <;> simp_all
      subst this
      exact .inl nextF_nil
    · rcases append_cases h.symm with ⟨r, rfl, rfl⟩ | ⟨r, hr, hf⟩
      · exact .inr (.inr ⟨rfl, hb, hbad r⟩)
      · exact .inl (hsh p r hf hr)
  | cons x o =>
    obtain ⟨f, s', h, hne, hsh, hok, ht⟩ := h
    rcases append_cases h.symm with ⟨r, rfl, rfl⟩ | ⟨r, hr, hf⟩
    · exact .inr (.inl ⟨x, o, f.length, rfl, hok r, by simp, List.length_pos_iff.2 hne, by rw [List.drop_left]; exact ht⟩)
    · exact .inl (hsh p r hf hr)
/-- A stream that has been fed whole and tells nothing more: all was told. -/
theorem Tells.end_ {outs : List (List UInt8)} {bad : Int} {p : List UInt8} (h : Tells outs bad p) (hd : nextF p = .error 0) : outs = [] ∧ bad = 0 := by
  cases outs with
  | nil =>
    rcases h with ⟨h, _⟩ | ⟨hb, f, s', rfl, _, hbad⟩
    · exact ⟨rfl, h⟩
    · rw [hbad] at hd
      injection hd with hd
      exact absurd hd hb
  | cons x o =>
    obtain ⟨f, s', rfl, _, _, hok, _⟩ := h
    rw [hok] at hd
    cases hd
theorem Tells.frames : ∀ (l : List (List UInt8)) (bad : Int) (s : List UInt8), (∀ x ∈ l, x.length ≤ 1048576) → Tells [] bad s → Tells l bad (l.flatMap frm ++ s)
  | [], bad, s, _, h => h
  | x :: l, bad, s, hl, h => by
    have hx := hl x (List.mem_cons_self ..)
    refine ⟨frm x, l.flatMap frm ++ s, by simp, ?_, fun p q h1 h2 => nextF_short hx h1 h2, fun r => nextF_frm x hx r, Tells.frames l bad s (fun y hy => hl y (List.mem_cons_of_mem _ hy)) h⟩
    intro h0
    have := frm_len x
    rw [h0] at this
    simp at this
end Go.Ev
