/- Clean: the document's one form of any ranges. The lengths stay below 2^29. -/
import Derived.Test.YtmjpcaiehfimgaaIds2
import Derived.Test.YtmjpcaiehfimgaaIds4
import Derived.Test.YtmjpcaiehfimgaaSort
import Derived.Test.YtmjpcaiehfimgaaLays
namespace Go.Proofs.Ytmjpcaiehfimgaa
open Go.RowKit Go.Ev Go.Ids

theorem cmpN_neg (a b : Nat) : cmpN a b < 0 ↔ a < b := by unfold cmpN; split; omega; split <;> omega
theorem cmpN_zero (a b : Nat) : cmpN a b = 0 ↔ a = b := by unfold cmpN; split; omega; split <;> omega
theorem ltOf_cfR (x y : Rng) : Go.Proofs.ltOf cfR x y = x.lt y := by
  unfold Go.Proofs.ltOf
  rw [Bool.eq_iff_iff, decide_eq_true_eq, lt_iff]
  unfold cfR
  split
  · rename_i h; rw [cmpN_zero] at h; rw [cmpN_neg]; omega
  · rename_i h; rw [cmpN_zero] at h; rw [cmpN_neg]; omega
theorem swoR : Go.Sort.SWO (Go.Proofs.ltOf cfR) where
  irrefl x := by rw [ltOf_cfR]; simp [Rng.lt]
  trans x y z h1 h2 := by rw [ltOf_cfR, lt_iff] at *; omega
  ntrans x y z h1 h2 := by
    rw [ltOf_cfR, ← Bool.not_eq_true, lt_iff] at *; omega
instance : Inhabited Rng := ⟨⟨0, 0, 0⟩⟩
theorem rC_len (x : Rng) : (rC x).length = 3 := rfl
theorem rC_one (x : Rng) : ∀ v ∈ rC x, v.oneCell' = true := by intro v hv; simp [rC] at hv; rcases hv with rfl | rfl | rfl <;> rfl
theorem sortR_c (m : World) (S : List Nat) (v : Value) (l : List Rng) (h : Ev.Own m S 62 3 v l.length (l.flatMap rC)) (hl : l.length < 1000000000) :
    FnR Try.prog 69 [v, .func (.func 70) #[] #[]] m fun r m' => r = .tuple #[] ∧ Ext m S m' ∧ ∃ l' : List Rng, l'.Perm l ∧ l'.Pairwise Rng.le ∧ Ev.Own m' S 62 3 v l'.length (l'.flatMap rC) := by
  refine FnR.mono (sortFunc_run Try.sortR 3 (by omega) Try.isAgg62 Try.sizeOf62 rC rC_len rC_one cfR swoR 70 ⟨_, Try.func70, by kernel_rfl, by kernel_rfl⟩ ⟨_, Try.func69, by kernel_rfl, by kernel_rfl⟩ (fun W x y => cmpR_c W x y) h (by omega)) ?_
  rintro r m' ⟨rfl, hE, l', h1, h2, h3⟩
  refine ⟨rfl, hE, l', h1, h2.imp (fun {a b} hab => ?_), h3⟩
  rw [ltOf_cfR] at hab
  exact le_of_not_lt (by rw [hab]; decide)
end Go.Proofs.Ytmjpcaiehfimgaa
