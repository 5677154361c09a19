/- Clocks of clients as rows of cells. -/
import Derived.Test.YtmjpcaiehfimgaaIds1
import Derived.Test.YtmjpcaiehfimgaaSort
import Derived.Test.YtmjpcaiehfimgaaMergeP
import Derived.Test.YtmjpcaiehfimgaaVecP
namespace Go.Proofs.Ytmjpcaiehfimgaa
open Go.RowKit Go.Ev Go.Ids Go.Mrg

def cC (x : Clk) : List Value := [.int .u64 x.c, .int .u64 x.k]
def cV (x : Clk) : Value := .agg (cC x).toArray
theorem cC_len (x : Clk) : (cC x).length = 2 := rfl
theorem cC_one (x : Clk) : ∀ v ∈ cC x, v.oneCell' = true := by intro v hv; simp [cC] at hv; rcases hv with rfl | rfl <;> rfl
theorem csC_len : ∀ l : List Clk, (l.flatMap cC).length = l.length * 2
  | [] => rfl
  | x :: l => by simp [cC, csC_len l]; omega
theorem csC_get : ∀ (l : List Clk) (k : Nat) (h : k < l.length) (j : Nat), j < 2 → (l.flatMap cC)[k * 2 + j]? = (cC l[k])[j]?
  | x :: l, 0, _, j, hj => by
    rw [List.flatMap_cons, List.getElem?_append_left (by simp [cC]; omega)]
    simp
  | x :: l, k + 1, h, j, hj => by
    rw [List.flatMap_cons, List.getElem?_append_right (by simp [cC]; omega)]
    have : (k + 1) * 2 + j - (cC x).length = k * 2 + j := by simp [cC]; omega
    rw [this, csC_get l k (by simpa using h) j hj]
    simp
theorem csC_one (l : List Clk) : ∀ u ∈ l.flatMap cC, u.oneCell' = true := by
  intro u hu
  obtain ⟨x, _, hx⟩ := List.mem_flatMap.1 hu
  exact cC_one x u hx
/-- A slice of clocks. -/
def Cs (m : World) (M : List Nat) (v : Value) (l : List Clk) : Prop := Sl m M 2 v (l.flatMap cC)
theorem Cs.shape {m : World} {M : List Nat} {v : Value} {l : List Clk} (h : Cs m M v l) : ∃ A c, v = .slice A l.length c ∧ l.length ≤ c ∧ c ≤ maxLen := Sl.shape h (csC_len l) (by omega)
theorem Cs.ext0 {m m' : World} {v : Value} {l : List Clk} (h : Cs m [] v l) (hE : Ext m [] m') : Cs m' [] v l := Sl.ext h hE (by simp) (by omega)
theorem Cs.cell {m : World} {M : List Nat} {A : Option Addr} {n c : Nat} {l : List Clk} (h : Cs m M (.slice A n c) l) (k : Nat) (hk : k < l.length) : ∃ ad, A = some ad ∧ ∀ j u, (cC l[k])[j]? = some u → m.cell? ((ad.add (k * 2)).add j) = some u := by
  obtain ⟨hl, _⟩ := Sl.len h
  rw [csC_len] at hl
  obtain ⟨ad, rfl, _, hc⟩ := Sl.addr h (by omega)
  refine ⟨ad, rfl, fun j u hu => ?_⟩
  have hj : j < 2 := by have := (List.getElem?_eq_some_iff.1 hu).1; simpa [cC] using this
  rw [add_add]
  exact hc _ u (by rw [csC_get l k hk j hj]; exact hu)
theorem cS_at {m : World} {M : List Nat} {ad : Addr} {n c : Nat} {l : List Clk} (h : Cs m M (.slice (some ad) n c) l) (k : Nat) (hk : k < l.length) : ∀ j u, (cC l[k])[j]? = some u → m.cell? ((ad.add (k * 2)).add j) = some u := by
  obtain ⟨_, h1, h2⟩ := h.cell k hk
  cases h1; exact h2
theorem csC_take (l : List Clk) (k : Nat) : (l.flatMap cC).take (k * 2) = (l.take k).flatMap cC := by
  induction k generalizing l with
  | zero => simp
  | succ k ih =>
    cases l with
    | nil => simp
    | cons x l =>
      rw [List.flatMap_cons, List.take_succ_cons, List.flatMap_cons, ← ih l, Nat.succ_mul, Nat.add_comm]
      exact List.take_length_add_append (l₁ := cC x) (k * 2)
theorem csC_drop (l : List Clk) (k : Nat) : (l.flatMap cC).drop (k * 2) = (l.drop k).flatMap cC := by
  induction k generalizing l with
  | zero => simp
  | succ k ih =>
    cases l with
    | nil => simp
    | cons x l =>
      rw [List.flatMap_cons, List.drop_succ_cons, ← ih l, Nat.succ_mul, Nat.add_comm, ← List.drop_drop]
      rfl
theorem csC_set (l : List Clk) (p : Nat) (y : Clk) (h : p < l.length) : (l.flatMap cC).take (p * 2) ++ cC y ++ (l.flatMap cC).drop (p * 2 + 2) = (l.set p y).flatMap cC := by
  rw [csC_take, show p * 2 + 2 = (p + 1) * 2 by omega, csC_drop, List.set_eq_take_append_cons_drop, if_pos h]; simp
theorem csC_app (a b : List Clk) : a.flatMap cC ++ b.flatMap cC = (a ++ b).flatMap cC := by simp
theorem cs_of_chg {m m' : World} {b : Nat} (l : List Clk) (hC : Chg m b (.cells (l.flatMap cC).toArray 60 (0, 0)) m') (hn : l.length ≤ maxLen) : Cs m' [] (.slice (some ⟨b, 0, none⟩) l.length l.length) l := by
  have h := Sl.of_blk (M := []) (n := l.length) (c := l.length) (sz := 2) hC.blk (by simp) (by rw [csC_len]; exact Nat.le_refl _) (Nat.le_refl _) hn
  rw [← csC_len, List.take_length] at h
  exact h
end Go.Proofs.Ytmjpcaiehfimgaa
