/- Counts, and the reference's Has. -/
import Derived.Test.YtmjpcaiehfimgaaIds7
namespace Go.Proofs.Ytmjpcaiehfimgaa
open Go.RowKit Go.Ev Go.Ids

def cnt (l : List Rng) : Nat := (l.map fun x => x.t - x.f).sum
theorem cnt_take (l : List Rng) (hl : ∀ x ∈ l, x.right = true) (i : Nat) (h : i < l.length) : cnt (l.take (i + 1)) = cnt (l.take i) + (l[i].t - l[i].f) ∧ l[i].f < l[i].t ∧ l[i].t ≤ 9007199254740992 := by
  have hr := right_iff.1 (hl l[i] (List.getElem_mem _))
  refine ⟨?_, hr.2.2.2.1, hr.2.2.2.2⟩
  unfold cnt
  rw [List.take_succ_eq_append_getElem h, List.map_append, List.sum_append]
  simp only [List.map_cons, List.map_nil, List.sum_cons, List.sum_nil, Nat.add_zero]
theorem cnt_le : ∀ (l : List Rng), (∀ x ∈ l, x.right = true) → cnt l ≤ l.length * 9007199254740992
  | [], _ => by simp [cnt]
  | x :: l, h => by
    have := cnt_le l (fun y hy => h y (List.mem_cons_of_mem _ hy))
    have hr := right_iff.1 (h x (List.mem_cons_self ..))
    simp only [cnt, List.map_cons, List.sum_cons, List.length_cons] at *
    omega
theorem cnt_take_le (l : List Rng) (i : Nat) : cnt (l.take i) ≤ cnt l := by
  have h := congrArg cnt (List.take_append_drop i l)
  unfold cnt at *
  rw [List.map_append, List.sum_append] at h
  omega
end Go.Proofs.Ytmjpcaiehfimgaa
