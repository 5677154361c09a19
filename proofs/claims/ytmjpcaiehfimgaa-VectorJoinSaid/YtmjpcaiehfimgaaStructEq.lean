/- A comparison whose answer is known, in a walk and in a region that draws. No conditions. -/
import Derived.Test.YtmjpcaiehfimgaaDraw
import Derived.Laws.StructEq
namespace Go.Ev
open Go.RowKit
section
variable {P : Program} {ops : Array Oper} {Q : Exit → Act → World → Prop} {J : World → Prop} {fin : List Nat} {fuel : Nat} {listed : Array Bool} {rest : List Oper} {n : Nat} {e e' : Env} {D : Fr} {ds : List Deferred} {m : World}
  {d : Option Tmp} {x y : Operand} {t yt ty : TypeId} {pos : String} {aft : Array Edge} {g : Option (Nat × Bool)} {op : BinOp} {a b v : Value}
theorem binOp_run (hr : ∀ w, (binOp op t a b).run P w = .ok v w) (hq : ∀ w, (eqGuard op t x y a b).run P w = .ok () w) {ac : Act} (hf : Fits n e D ac) (hx : e.ev x = some a) (hy : e.ev y = some b) (w : World) :
    (execOp ac.eval (⟨d, .binOp op t x y yt, ty, pos, aft, g⟩ : Oper)).run P w = .ok (.value v) w := by
  unfold execOp
  simp [hf.ev hx, hf.ev hy, hr, hq]
theorem RL.binOp (hr : ∀ w, (Go.binOp op t a b).run P w = .ok v w) (hq : ∀ w, (eqGuard op t x y a b).run P w = .ok () w) (hg : gd ops e ⟨d, .binOp op t x y yt, ty, pos, aft, g⟩ = some true) (hx : e.ev x = some a) (hy : e.ev y = some b)
    (hp : putE n d v e = some e') (h : RL P ops Q rest n e' D m) : RL P ops Q (⟨d, .binOp op t x y yt, ty, pos, aft, g⟩ :: rest) n e D m :=
  RL.value v hg (fun _ w hf _ => binOp_run hr hq hf hx hy w) hp h
theorem RH.binOp (hr : ∀ w, (Go.binOp op t a b).run P w = .ok v w) (hq : ∀ w, (eqGuard op t x y a b).run P w = .ok () w) (hQ : PanicOk Q) (i : Nat) (hi : ops[i]? = some ⟨d, .binOp op t x y yt, ty, pos, aft, g⟩) (hB : (Region.noSelect ops && takesB ops fin listed [i]) = true)
    (hg : gd ops e ⟨d, .binOp op t x y yt, ty, pos, aft, g⟩ = some true) (hx : e.ev x = some a) (hy : e.ev y = some b)
    (hp : putE n d v e = some e') (h : RH P ops Q J fin fuel (listed.setIfInBounds i true) n e' ds m) : RH P ops Q J fin (fuel + 1) listed n e ds m := by
  simp only [takesB, Bool.and_eq_true, Bool.and_true] at hB
  exact RH.take hi hB.1 hB.2.1 hB.2.2 hQ (fun ac hf => .inl ⟨gd_sound hf hg, fun w _ => binOp_run hr hq hf hx hy w⟩) hp h
end
end Go.Ev
