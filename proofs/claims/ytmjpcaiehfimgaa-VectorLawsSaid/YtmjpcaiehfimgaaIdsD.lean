/- Join, Meet, and the reference's. -/
import Derived.Test.YtmjpcaiehfimgaaIds9
import Derived.Test.YtmjpcaiehfimgaaSlRange
namespace Go.Proofs.Ytmjpcaiehfimgaa
open Go.RowKit Go.Ev Go.Ids

theorem meetAt (A B : List Rng) (i j : Nat) (hi : i < A.length) (hj : j < B.length) : (A.take i).flatMap (fun x => B.flatMap (both x)) ++ (B.take (j + 1)).flatMap (both A[i]) = ((A.take i).flatMap (fun x => B.flatMap (both x)) ++ (B.take j).flatMap (both A[i])) ++ both A[i] B[j] := by
  rw [List.take_succ_eq_append_getElem hj, List.flatMap_append, List.append_assoc]; simp
theorem meetAt_len (A B : List Rng) (i j : Nat) (hi : i < A.length) (hj : j ≤ B.length) : ((A.take i).flatMap (fun x => B.flatMap (both x)) ++ (B.take j).flatMap (both A[i])).length ≤ A.length * B.length := by
  have h1 := meetO_len (A.take i) B
  have h2 := boths_len A[i] (B.take j)
  have h3 : (i + 1) * B.length ≤ A.length * B.length := Nat.mul_le_mul_right _ hi
  unfold meetO at h1
  rw [List.length_take, Nat.min_eq_left (by omega)] at h1 h2
  rw [Nat.succ_mul] at h3
  rw [List.length_append]
  omega
theorem meetAt_next (A B : List Rng) (i : Nat) (hi : i < A.length) : (A.take (i + 1)).flatMap (fun x => B.flatMap (both x)) = (A.take i).flatMap (fun x => B.flatMap (both x)) ++ (B.take B.length).flatMap (both A[i]) := by
  rw [List.take_succ_eq_append_getElem hi, List.flatMap_append, List.take_length]; simp
theorem bothV (x y : Rng) : Value.agg #[.int .u64 x.c, .int .u64 (if (x.f : Int) < y.f then (y.f : Int) else x.f), .int .u64 (if (y.t : Int) < x.t then (y.t : Int) else x.t)] = rV ⟨x.c, max x.f y.f, min x.t y.t⟩ := by
  have h1 : (if (x.f : Int) < y.f then (y.f : Int) else x.f) = ((max x.f y.f : Nat) : Int) := by split <;> omega
  have h2 : (if (y.t : Int) < x.t then (y.t : Int) else x.t) = ((min x.t y.t : Nat) : Int) := by split <;> omega
  rw [h1, h2]; rfl
end Go.Proofs.Ytmjpcaiehfimgaa
