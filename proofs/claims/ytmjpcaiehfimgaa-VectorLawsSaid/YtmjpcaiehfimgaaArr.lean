/- Local arrays of one-cell elements; small words for drawn regions. No conditions. -/
import Derived.Test.YtmjpcaiehfimgaaSlice
namespace Go.Ev
open Go.RowKit
section
variable {P : Program} {T : Ty} {ops : Array Oper} {Q : Exit → Act → World → Prop} {J : World → Prop} {fin : List Nat} {fuel : Nat} {listed : Array Bool} {rest : List Oper} {n : Nat} {e e' : Env} {D : Fr} {ds : List Deferred} {m : World}
  {d : Option Tmp} {x y : Operand} {t ty : TypeId} {pos : String} {aft : Array Edge} {g : Option (Nat × Bool)}
/-- An array of one-cell elements: its length. -/
def Ty.arr1 (T : Ty) (t : TypeId) : Option Nat := match T.row t with
  | some rt => match rt.k with
    | .arr k te => match T.row te with
      | some r => match r.size with
        | 1 => some k
        | _ => none
      | none => none
    | _ => none
  | none => none
theorem Ty.arr1_spec {T : Ty} (hT : T.Ok P) {t : TypeId} {k : Nat} (h : T.arr1 t = some k) : ∃ te, P.underlying t = some (.array k te) ∧ ∀ w, (sizeOf te).run P w = .ok 1 w := by
  unfold Ty.arr1 at h
  split at h
  · rename_i rt hrt
    split at h
    · rename_i k' te hk
      split at h
      · rename_i r hr
        split at h
        · rename_i hs
          injection h with h; subst h
          have hu := (hT.row hrt).k; rw [hk] at hu
          refine ⟨te, hu, fun w => ?_⟩
          have := (hT.row hr).run_size w
          rw [hs] at this; exact this
        · cases h
      · cases h
    · cases h
  · cases h
theorem run_indexArr (hT : T.Ok P) {len k b : Nat} {kk : IntKind} (ht : T.arr1 t = some len) (hlt : k < len) (w : World) : (Instr.indexAt t (.pointer (some ⟨b, 0, none⟩)) (.int kk (k : Int))).run P w = .ok (.pointer (some ⟨b, k, none⟩)) w := by
  obtain ⟨te, hu, hsz⟩ := Ty.arr1_spec hT ht
  have h1 : (⟨b, 0, none⟩ : Addr).add (k * 1) = ⟨b, k, none⟩ := by rw [add_block]; simp
  have h2 : (⟨b, 0, none⟩ : Addr).add k = ⟨b, k, none⟩ := by rw [add_block]; simp
  simp [Instr.indexAt, asIntOf, run_underlying hu, Instr.sureAddr, hsz, hlt, h2]
theorem RL.arr (hT : T.Ok P) {len b k : Nat} {j : Int} {kk : IntKind} (ht : T.arr1 t = some len) (hg : gd ops e ⟨d, .indexAddr t x y, ty, pos, aft, g⟩ = some true) (hx : e.ev x = some (.pointer (some ⟨b, 0, none⟩))) (hy : e.ev y = some (.int kk j)) (hj : j = (k : Int)) (hlt : k < len)
    (hp : putE n d (.pointer (some ⟨b, k, none⟩)) e = some e') (h : RL P ops Q rest n e' D m) : RL P ops Q (⟨d, .indexAddr t x y, ty, pos, aft, g⟩ :: rest) n e D m := by
  subst hj
  refine RL.value _ hg (fun a w hf hs => ?_) hp h
  simp [execOp, hf.ev hx, hf.ev hy, run_indexArr hT ht hlt]
theorem RH.arr (hT : T.Ok P) (hQ : PanicOk Q) (i : Nat) {len b k : Nat} {j : Int} {kk : IntKind} (hi : ops[i]? = some ⟨d, .indexAddr t x y, ty, pos, aft, g⟩) (hB : (Region.noSelect ops && takesB ops fin listed [i]) = true) (ht : T.arr1 t = some len)
    (hg : gd ops e ⟨d, .indexAddr t x y, ty, pos, aft, g⟩ = some true) (hx : e.ev x = some (.pointer (some ⟨b, 0, none⟩))) (hy : e.ev y = some (.int kk j)) (hj : j = (k : Int)) (hlt : k < len)
    (hp : putE n d (.pointer (some ⟨b, k, none⟩)) e = some e') (h : RH P ops Q J fin fuel (listed.setIfInBounds i true) n e' ds m) : RH P ops Q J fin (fuel + 1) listed n e ds m := by
  simp only [takesB, Bool.and_eq_true, Bool.and_true] at hB
  subst hj
  refine RH.take hi hB.1 hB.2.1 hB.2.2 hQ (fun a hf => .inl ⟨gd_sound hf hg, fun w _ => ?_⟩) hp h
  simp [execOp, hf.ev hx, hf.ev hy, run_indexArr hT ht hlt]
theorem RH.sliceTo (hT : T.Ok P) (hQ : PanicOk Q) (i : Nat) {s l len cap : Nat} {A : Option Addr} {k : IntKind} {j : Int} (hi : ops[i]? = some ⟨d, .slice t x none (some y) none, ty, pos, aft, g⟩) (hB : (Region.noSelect ops && takesB ops fin listed [i]) = true) (hs : T.sliceOf t = some s)
    (hg : gd ops e ⟨d, .slice t x none (some y) none, ty, pos, aft, g⟩ = some true) (hx : e.ev x = some (.slice A len cap)) (hy : e.ev y = some (.int k j)) (hj : j = (l : Int)) (hl : l ≤ cap)
    (hp : putE n d (.slice A l cap) e = some e') (h : RH P ops Q J fin fuel (listed.setIfInBounds i true) n e' ds m) : RH P ops Q J fin (fuel + 1) listed n e ds m := by
  simp only [takesB, Bool.and_eq_true, Bool.and_true] at hB
  subst hj
  refine RH.take hi hB.1 hB.2.1 hB.2.2 hQ (fun a hf => .inl ⟨gd_sound hf hg, fun w _ => ?_⟩) hp h
  obtain ⟨te, hu, hsz⟩ := sizeOf_run hT hs w
  have hA : (if cap = 0 then A else A.map (·.add 0)) = A := by split <;> cases A <;> simp [Addr.add]
  simp [execOp, hf.ev hx, hf.ev hy, Instr.sliceAt, Instr.slice, Instr.sliceBounds, Instr.sliceBound, asIntOf, run_underlying hu, hsz, hl, hA]
theorem RH.sliceFrom (hT : T.Ok P) (hQ : PanicOk Q) (i : Nat) {s l len cap : Nat} {A : Option Addr} {k : IntKind} {j : Int} (hi : ops[i]? = some ⟨d, .slice t x (some y) none none, ty, pos, aft, g⟩) (hB : (Region.noSelect ops && takesB ops fin listed [i]) = true) (hs : T.sliceOf t = some s)
    (hg : gd ops e ⟨d, .slice t x (some y) none none, ty, pos, aft, g⟩ = some true) (hx : e.ev x = some (.slice A len cap)) (hy : e.ev y = some (.int k j)) (hj : j = (l : Int)) (hl : l ≤ len)
    (hp : putE n d (.slice (if cap = l then A else A.map (·.add (l * s))) (len - l) (cap - l)) e = some e') (h : RH P ops Q J fin fuel (listed.setIfInBounds i true) n e' ds m) : RH P ops Q J fin (fuel + 1) listed n e ds m := by
  simp only [takesB, Bool.and_eq_true, Bool.and_true] at hB
  subst hj
  refine RH.take hi hB.1 hB.2.1 hB.2.2 hQ (fun a hf => .inl ⟨gd_sound hf hg, fun w _ => ?_⟩) hp h
  obtain ⟨te, hu, hsz⟩ := sizeOf_run hT hs w
  simp [execOp, hf.ev hx, hf.ev hy, Instr.sliceAt, Instr.slice, Instr.sliceBounds, Instr.sliceBound, asIntOf, run_underlying hu, hsz, hl]
theorem RH.eqv {k : Nat} {v v' : Value} (hv : v = v') (h : RH P ops Q J fin fuel listed n ((k, v') :: e) ds m) : RH P ops Q J fin fuel listed n ((k, v) :: e) ds m := by subst hv; exact h
end
end Go.Ev
