/- A region that draws its order: what only looks is taken first; what acts, when nothing else may come. No conditions. -/
import Derived.Test.YtmjpcaiehfimgaaOwn
import Derived.OrdersHeld
import Derived.OrdersIn
namespace Go.Ev
open Go.RowKit

/-- Whatever order is picked from here on; S holds behind every operation that is carried out but those of 'fin'. -/
def wpAnyF (P : Program) (md : Region.Mode) (ops : Array Oper) (Q : Exit → Act → World → Prop) (S : World → Prop) (fin : List Nat) : Nat → Array Bool → Act → World → Prop
  | 0, listed, a, w => Region.ready md ops listed = [] ∧ Q .normal a w
  | fuel + 1, listed, a, w =>
    (Region.ready md ops listed = [] → Q .normal a w) ∧
    ∀ i ∈ Region.ready md ops listed, wpOpIn Fence.wide 0 P ops Q i (fun a' w' => (i ∈ fin ∨ S w') ∧ wpAnyF P md ops Q S fin fuel (listed.setIfInBounds i true) a' w') a w
section
variable {P : Program} {ops : Array Oper} {Q : Exit → Act → World → Prop} {md : Region.Mode} {S : World → Prop} {fin : List Nat}
theorem wpAny_of_F : ∀ (fuel : Nat) (listed : Array Bool) (a : Act) (w : World), wpAnyF P md ops Q S fin fuel listed a w → wpAnyIn Fence.wide 0 P md ops Q fuel listed a w
  | 0, _, _, _, h => h
  | fuel + 1, _, _, _, h => ⟨h.1, fun i hi => wpOpIn_mono (fun a' w' h' => wpAny_of_F fuel _ a' w' h'.2) (h.2 i hi)⟩
def dirB (md : Region.Mode) (ops : Array Oper) (f i : Nat) : Bool := match ops[f]? with
  | some o => o.after.any fun e => Region.binds md e && e.on == i
  | none => true
theorem dirB_spec {i f : Nat} {listed : Array Bool} (h : dirB md ops f i = true) (hr : f ∈ Region.ready md ops listed) (hi : listed.getD i true = false) : False := by
  obtain ⟨_, o, ho, hall⟩ := mem_ready.1 hr
  unfold dirB at h
  rw [ho] at h
  obtain ⟨e, he, hb⟩ := Array.any_eq_true'.1 h
  simp only [Bool.and_eq_true, beq_iff_eq] at hb
  have h2 := hall e he hb.1
  rw [hb.2] at h2
  rcases Nat.lt_or_ge i listed.size with h' | h'
  · simp [h'] at hi h2; rw [hi] at h2; cases h2
  · simp [Array.getElem?_eq_none h'] at h2
/-- Each operation of 'fin' waits for i: itself, or through one that hasn't come yet. -/
def waitsB (md : Region.Mode) (ops : Array Oper) (fin : List Nat) (listed : Array Bool) (i : Nat) : Bool :=
  fin.all fun f => listed.getD f true || (dirB md ops f i || (List.range ops.size).any fun k => dirB md ops f k && dirB md ops k i && !listed.getD k true)
theorem waitsB_spec {i f : Nat} {listed : Array Bool} (h : waitsB md ops fin listed i = true) (hf : f ∈ fin) (hr : f ∈ Region.ready md ops listed) (hi : listed.getD i true = false) : False := by
  have h1 := List.all_eq_true.1 h f hf
  simp only [Bool.or_eq_true, List.any_eq_true, Bool.and_eq_true, Bool.not_eq_true'] at h1
  rcases h1 with h1 | h1 | ⟨k, _, ⟨h1, _⟩, h3⟩
  · have h2 := (mem_ready.1 hr).1
    rw [h1] at h2; cases h2
  · exact dirB_spec h1 hr hi
  · exact dirB_spec h1 hr h3
theorem waitsB_step {i j : Nat} {listed : Array Bool} (h : waitsB md ops fin listed i = true) (hj : j ∈ Region.ready md ops listed) (hi : listed.getD i true = false) : waitsB md ops fin (listed.setIfInBounds j true) i = true := by
  refine List.all_eq_true.2 fun f hf => ?_
  have h1 := List.all_eq_true.1 h f hf
  simp only [Bool.or_eq_true, List.any_eq_true, Bool.and_eq_true, Bool.not_eq_true'] at h1 ⊢
  rcases h1 with h1 | h1 | ⟨k, hk, ⟨h1, h2⟩, h3⟩
  · by_cases hjf : j = f
    · subst hjf
      have h9 := (mem_ready.1 hj).1
      rw [h1] at h9; cases h9
    · left; rw [getD_set_ne true hjf]; exact h1
  · exact .inr (.inl h1)
  · refine .inr (.inr ⟨k, hk, ⟨h1, h2⟩, ?_⟩)
    have hjk : j ≠ k := fun hh => dirB_spec (hh ▸ h2) hj hi
    rw [getD_set_ne true hjk]
    exact h3
theorem YieldsIf.wpOpIn {i : Nat} {o : Oper} {v : Value} {a : Act} (hi : ops[i]? = some o) (hy : YieldsIf P ops S o v a)
    {K : Act → World → Prop} {w : World} (hS : S w) (h : K (a.put o.dst v) w) : wpOpIn Fence.wide 0 P ops Q i K a w := by
  unfold Go.wpOpIn
  simp only [hi]
  rcases hy with ⟨hw, hv⟩ | ⟨hw, rfl⟩
  · simp only [hw, if_true, Oper.wpIn, Fence.wide_round, Oper.semAt_none, hv w hS, Oper.uponIn]; exact ⟨fun _ _ => trivial, h⟩
  · simp only [hw, Bool.false_eq_true, if_false]; exact ⟨fun _ _ => trivial, h⟩
theorem wpOpIn_putIf {j : Nat} {oi oj : Oper} {v : Value} (hj : ops[j]? = some oj) (hap : oi.apart ops oj = true)
    (hsi : ∀ cs b, oi.op ≠ .select cs b) (hsj : ∀ cs b, oj.op ≠ .select cs b)
    (hQ : ∀ c a w, Q (.panic c) (a.put oi.dst v) w → Q (.panic c) a w) {K : Act → World → Prop} {a : Act} {w : World}
    (hy : YieldsIf P ops S oi v a) (h : wpOpIn Fence.wide 0 P ops Q j K (a.put oi.dst v) w) :
    wpOpIn Fence.wide 0 P ops Q j (fun a' w' => YieldsIf P ops S oi v a' ∧ K (a'.put oi.dst v) w') a w := by
  obtain ⟨h1, h2, h3⟩ := Oper.apart_spec hap
  have keep : ∀ (a : Act), YieldsIf P ops S oi v a → ∀ u, YieldsIf P ops S oi v (a.put oj.dst u) := fun a hy u =>
    hy.of_same (execOp_put oi hsi a oj.dst u h3) (wanted_put oi a oj.dst u h3)
  have keepD : ∀ d, YieldsIf P ops S oi v { a with defers := d :: a.defers } := fun d => hy.of_same rfl rfl
  unfold wpOpIn at *
  simp only [hj] at *
  rw [wanted_put oj a oi.dst v h1] at h
  split
  · rename_i hw
    simp only [hw, if_true] at h
    unfold Oper.wpIn at *
    refine ⟨fun _ _ => trivial, ?_⟩
    have h := h.2
    rw [Fence.wide_round, Oper.semAt_none, execOp_put oj hsj a oi.dst v h1] at h
    rw [Fence.wide_round, Oper.semAt_none]
    generalize (execOp a.eval oj).run P w = r at *
    cases r with
    | ok x w' =>
      cases x <;> simp only [Oper.uponIn] at h ⊢
      case value u => exact ⟨keep a hy u, by rw [← Act.put_comm a v u h2]; exact h⟩
      case skip => exact ⟨keep a hy _, by rw [← Act.put_comm a v undef h2]; exact h⟩
      case defer d =>
        refine ⟨keep _ (keepD d) _, ?_⟩
        rw [← Act.put_comm _ v undef h2, ← Act.put_defers]
        exact h
      case enter f args =>
        refine ⟨h.1, CallsIn.mono h.2 fun e w'' he => ?_⟩
        cases e with
        | returned u => exact ⟨keep a hy u, by rw [← Act.put_comm a v u h2]; exact he⟩
        | panicked c => exact hQ _ _ _ he
        | outgrown => exact he
      case row row args => exact ⟨h.1, RowsIn.mono h.2 fun u w'' he => ⟨keep a hy u, by rw [← Act.put_comm a v u h2]; exact he⟩⟩
      case round l f tmps assign body =>
        refine ⟨h.1, RoundIn.mono h.2 fun e w'' he => ?_⟩
        cases e with
        | returned u => exact ⟨keep a hy u, by rw [← Act.put_comm a v u h2]; exact he⟩
        | panicked c => exact hQ _ _ _ he
        | outgrown => exact he
    | halt x w' =>
      cases x <;> simp only [Oper.uponIn] at h ⊢
      case panic u => exact hQ _ _ _ h
  · rename_i hw
    simp only [hw] at h
    exact ⟨fun _ _ => trivial, keep a hy _, by rw [← Act.put_comm a v undef h2]; exact h.2⟩
theorem wpAnyF_first {i : Nat} {oi : Oper} {v : Value} (hi : ops[i]? = some oi) (hsel : ∀ (j : Nat) (o : Oper) cs b, ops[j]? = some o → o.op ≠ .select cs b) 
    (hQ : ∀ c a w, Q (.panic c) (a.put oi.dst v) w → Q (.panic c) a w) :
    ∀ (fuel : Nat) (listed : Array Bool) (a : Act) (w : World), waitsB md ops fin listed i = true →
      (∀ j oj, ops[j]? = some oj → j ≠ i → listed.getD j true = false → (∀ e ∈ oj.after, Region.binds md e = true → e.on ≠ i) → oi.apart ops oj = true) →
      i ∈ Region.ready md ops listed → YieldsIf P ops S oi v a → S w →
      wpAnyF P md ops Q S fin fuel (listed.setIfInBounds i true) (a.put oi.dst v) w → wpAnyF P md ops Q S fin (fuel + 1) listed a w := by
  intro fuel
  induction fuel with
  | zero =>
    intro listed a w _ _ hr hy hS H
    refine ⟨fun h => (by rw [h] at hr; cases hr), fun j hj => ?_⟩
    by_cases hji : j = i
    · subst hji; exact YieldsIf.wpOpIn hi hy hS ⟨.inr hS, H⟩
    · have := ready_mono hj hji
      rw [H.1] at this
      cases this
  | succ fuel ih =>
    intro listed a w hfin hfree hr hy hS H
    refine ⟨fun h => (by rw [h] at hr; cases hr), fun j hj => ?_⟩
    by_cases hji : j = i
    · subst hji; exact YieldsIf.wpOpIn hi hy hS ⟨.inr hS, H⟩
    · have h1 := H.2 j (ready_mono hj hji)
      obtain ⟨hjun, oj, hoj, hall⟩ := mem_ready.1 hj
      have hnot : ∀ e ∈ oj.after, Region.binds md e = true → e.on ≠ i := fun e he hb heq => by
        have h1 := hall e he hb
        have h0 := (mem_ready.1 hr).1
        rw [heq] at h1
        rcases Nat.lt_or_ge i listed.size with h' | h'
        · simp [h'] at h0 h1; rw [h0] at h1; cases h1
        · simp [Array.getElem?_eq_none h'] at h1
      have h2 := wpOpIn_putIf hoj (hfree j oj hoj hji hjun hnot) (fun cs b => hsel i oi cs b hi) (fun cs b => hsel j oj cs b hoj) hQ hy h1
      have hfree' : ∀ k ok, ops[k]? = some ok → k ≠ i → (listed.setIfInBounds j true).getD k true = false →
          (∀ e ∈ ok.after, Region.binds md e = true → e.on ≠ i) → oi.apart ops ok = true := fun k ok hk hki hun hno => by
        refine hfree k ok hk hki ?_ hno
        by_cases hjk : j = k
        · subst hjk; exact hjun
        · rw [getD_set_ne true hjk] at hun; exact hun
      refine wpOpIn_mono (fun a' w' h3 => ?_) h2
      have hS' : S w' := by
        rcases h3.2.1 with hf | hs
        · exact (waitsB_spec hfin hf hj (mem_ready.1 hr).1).elim
        · exact hs
      refine ⟨.inr hS', ih (listed.setIfInBounds j true) a' w' (waitsB_step hfin hj (mem_ready.1 hr).1) hfree' (ready_mono hr (Ne.symm hji)) h3.1 hS' ?_⟩
      rw [Array.setIfInBounds_comm _ _ hji]
      exact h3.2.2
theorem wpAnyF_take {i : Nat} {oi : Oper} {v : Value} {fuel : Nat} {listed : Array Bool} {a : Act} {w : World} (hi : ops[i]? = some oi)
    (hs : Region.noSelect ops = true) (hfin : waitsB md ops fin listed i = true) (hf : Region.free md ops listed i = true) (hr : (Region.ready md ops listed).contains i = true)
    (hQ : ∀ c a w, Q (.panic c) (a.put oi.dst v) w → Q (.panic c) a w) (hy : YieldsIf P ops S oi v a) (hS : S w)
    (h : wpAnyF P md ops Q S fin fuel (listed.setIfInBounds i true) (a.put oi.dst v) w) : wpAnyF P md ops Q S fin (fuel + 1) listed a w :=
  wpAnyF_first hi (Region.noSelect_spec hs) hQ fuel listed a w hfin (Region.free_spec hi hf) (by simpa using hr) hy hS h
/-- What needs no world at all is taken first, if it is one of 'fin'. -/
theorem wpAnyF_firstP {i : Nat} {oi : Oper} {v : Value} (hi : ops[i]? = some oi) (hsel : ∀ (j : Nat) (o : Oper) cs b, ops[j]? = some o → o.op ≠ .select cs b) (hfi : i ∈ fin)
    (hQ : ∀ c a w, Q (.panic c) (a.put oi.dst v) w → Q (.panic c) a w) :
    ∀ (fuel : Nat) (listed : Array Bool) (a : Act) (w : World),
      (∀ j oj, ops[j]? = some oj → j ≠ i → listed.getD j true = false → (∀ e ∈ oj.after, Region.binds md e = true → e.on ≠ i) → oi.apart ops oj = true) →
      i ∈ Region.ready md ops listed → YieldsIf P ops (fun _ => True) oi v a →
      wpAnyF P md ops Q S fin fuel (listed.setIfInBounds i true) (a.put oi.dst v) w → wpAnyF P md ops Q S fin (fuel + 1) listed a w := by
  intro fuel
  induction fuel with
  | zero =>
    intro listed a w _ hr hy H
    refine ⟨fun h => (by rw [h] at hr; cases hr), fun j hj => ?_⟩
    by_cases hji : j = i
    · subst hji; exact YieldsIf.wpOpIn hi hy trivial ⟨.inl hfi, H⟩
    · have := ready_mono hj hji
      rw [H.1] at this
      cases this
  | succ fuel ih =>
    intro listed a w hfree hr hy H
    refine ⟨fun h => (by rw [h] at hr; cases hr), fun j hj => ?_⟩
    by_cases hji : j = i
    · subst hji; exact YieldsIf.wpOpIn hi hy trivial ⟨.inl hfi, H⟩
    · have h1 := H.2 j (ready_mono hj hji)
      obtain ⟨hjun, oj, hoj, hall⟩ := mem_ready.1 hj
      have hnot : ∀ e ∈ oj.after, Region.binds md e = true → e.on ≠ i := fun e he hb heq => by
        have h1 := hall e he hb
        have h0 := (mem_ready.1 hr).1
        rw [heq] at h1
        rcases Nat.lt_or_ge i listed.size with h' | h'
        · simp [h'] at h0 h1; rw [h0] at h1; cases h1
        · simp [Array.getElem?_eq_none h'] at h1
      have h2 := wpOpIn_putIf hoj (hfree j oj hoj hji hjun hnot) (fun cs b => hsel i oi cs b hi) (fun cs b => hsel j oj cs b hoj) hQ hy h1
      have hfree' : ∀ k ok, ops[k]? = some ok → k ≠ i → (listed.setIfInBounds j true).getD k true = false →
          (∀ e ∈ ok.after, Region.binds md e = true → e.on ≠ i) → oi.apart ops ok = true := fun k ok hk hki hun hno => by
        refine hfree k ok hk hki ?_ hno
        by_cases hjk : j = k
        · subst hjk; exact hjun
        · rw [getD_set_ne true hjk] at hun; exact hun
      refine wpOpIn_mono (fun a' w' h3 => ?_) h2
      refine ⟨h3.2.1, ih (listed.setIfInBounds j true) a' w' hfree' (ready_mono hr (Ne.symm hji)) h3.1 ?_⟩
      rw [Array.setIfInBounds_comm _ _ hji]
      exact h3.2.2
theorem wpAnyF_all {rs : List Nat} {fuel : Nat} {listed : Array Bool} {a : Act} {w : World} (hr : Region.ready md ops listed = rs) (hne : rs ≠ [])
    (h : ∀ i ∈ rs, wpOpIn Fence.wide 0 P ops Q i (fun a' w' => (i ∈ fin ∨ S w') ∧ wpAnyF P md ops Q S fin fuel (listed.setIfInBounds i true) a' w') a w) : wpAnyF P md ops Q S fin (fuel + 1) listed a w :=
  ⟨fun h0 => absurd (hr ▸ h0) hne, hr ▸ h⟩
theorem wpAnyF_done {listed : Array Bool} {a : Act} {w : World} (hr : Region.ready md ops listed = []) (h : Q .normal a w) : ∀ fuel, wpAnyF P md ops Q S fin fuel listed a w
  | 0 => ⟨hr, h⟩
  | _ + 1 => ⟨fun _ => h, by rw [hr]; simp⟩
theorem wp_region_F {id : Nat} {a : Act} {w : World} (hm : P.follows .mixedOrders = true)
    (h : wpAnyF P .any ops Q S fin ops.size (Array.replicate ops.size false) a { w with drawn := w.drawn + 1 }) : (Code.region id ops true).wpIn Fence.wide 0 P Q a w :=
  wpIn_region_any hm (wpAny_of_F _ _ _ _ h)
end

def SJ (J : World → Prop) (w : World) : Prop := ∃ m, Sim m w ∧ J m
/-- Whatever order is drawn from here on ('listed': what has come up; J: what holds of every world on the way, till an operation of 'fin' comes). -/
def RH (P : Program) (ops : Array Oper) (Q : Exit → Act → World → Prop) (J : World → Prop) (fin : List Nat) (fuel : Nat) (listed : Array Bool) (n : Nat) (e : Env) (ds : List Deferred) (m : World) : Prop :=
  ∀ a w, Fits n e ⟨ds, none⟩ a → Sim m w → J m → wpAnyF P .any ops Q (SJ J) fin fuel listed a w
/-- The same behind an operation of 'fin'. -/
def RF (P : Program) (ops : Array Oper) (Q : Exit → Act → World → Prop) (J : World → Prop) (fin : List Nat) (fuel : Nat) (listed : Array Bool) (n : Nat) (e : Env) (ds : List Deferred) (m : World) : Prop :=
  ∀ a w, Fits n e ⟨ds, none⟩ a → Sim m w → wpAnyF P .any ops Q (SJ J) fin fuel listed a w
def PanicOk (Q : Exit → Act → World → Prop) : Prop := ∀ (c : List PanicEntry) (a : Act) (w : World) (d : Option Tmp) (v : Value), Q (.panic c) (a.put d v) w → Q (.panic c) a w
theorem put_defers (a : Act) (d : Option Tmp) (v : Value) : (a.put d v).defers = a.defers := by cases d <;> rfl
theorem PanicOk.body {P : Program} {fn : Func} {post : Ending → World → Prop} : PanicOk (bodyQ P fn post) := fun c a w d v h => by
  obtain ⟨h1, h2⟩ := h
  exact ⟨(put_defers a d v).symm.trans h1, h2⟩
def setAll (listed : Array Bool) : List Nat → Array Bool
  | [] => listed
  | i :: r => setAll (listed.setIfInBounds i true) r
/-- May these come up, one behind the other, whatever else might? -/
def takesB (ops : Array Oper) (fin : List Nat) : Array Bool → List Nat → Bool
  | _, [] => true
  | listed, i :: r => (waitsB .any ops fin listed i && Region.free .any ops listed i) && (Region.ready .any ops listed).contains i && takesB ops fin (listed.setIfInBounds i true) r
/-- What is known behind them. -/
def runPI (T : Ty) (ops : Array Oper) (n : Nat) : List Nat → Env → Option Env
  | [], e => some e
  | i :: r, e => match ops[i]? with
    | some o => match gd ops e o with
      | some true => match pv T e o.op with
        | some v => match putE n o.dst v e with
          | some e' => runPI T ops n r e'
          | none => none
        | none => none
      | some false => match putE n o.dst undef e with
        | some e' => runPI T ops n r e'
        | none => none
      | none => none
    | none => none

section
variable {P : Program} {T : Ty} {ops : Array Oper} {Q : Exit → Act → World → Prop} {J : World → Prop} {fin : List Nat} {fuel : Nat} {listed : Array Bool} {n : Nat} {e e' : Env} {ds : List Deferred} {m : World} {v : Value}
theorem WP.draw {id : Nat} {l : List Oper} (J : World → Prop) (fin : List Nat) (hm : P.follows .mixedOrders = true) (hJ : J m) (h : RH P l.toArray Q J fin l.length (Array.replicate l.length false) n e ds m) : WP P (.region id l.toArray true) Q n e ⟨ds, none⟩ m :=
  fun a w hf hs => wp_region_F (S := SJ J) (fin := fin) hm (by simpa using h a { w with drawn := w.drawn + 1 } hf hs.drew hJ)
/-- The same aim without panics. -/
def calm (Q : Exit → Act → World → Prop) : Exit → Act → World → Prop
  | .panic _, _, _ => False
  | ex, a, w => Q ex a w
theorem PanicOk.calm : PanicOk (calm Q) := fun _ _ _ _ _ h => h
theorem WP.calm {c : Code} {D : Fr} (h : WP P c (calm Q) n e D m) : WP P c Q n e D m := fun a w hf hs => wpIn_mono (h a w hf hs) (fun ex a w hq => by
  cases ex with
  | panic ch => exact hq.elim
  | _ => exact hq)
theorem QN.calm {D : Fr} (h : QN Q .normal n e D m) : QN (calm Q) .normal n e D m := h
theorem PanicOk.then_ {K : Act → World → Prop} (h : PanicOk Q) : PanicOk (Exit.then K Q) := h
theorem PanicOk.block_ {id : Nat} (h : PanicOk Q) : PanicOk (Exit.inBlock id Q) := h
theorem WP.drawQ {id : Nat} {l : List Oper} (J : World → Prop) (fin : List Nat) (hm : P.follows .mixedOrders = true) (hJ : J m) (hQ : PanicOk Q) (h : PanicOk Q → RH P l.toArray Q J fin l.length (Array.replicate l.length false) n e ds m) : WP P (.region id l.toArray true) Q n e ⟨ds, none⟩ m := WP.draw J fin hm hJ (h hQ)
theorem RH.sub (hs : Sub e' e) (h : RH P ops Q J fin fuel listed n e' ds m) : RH P ops Q J fin fuel listed n e ds m := fun a w hf hw hj => h a w (hf.sub hs) hw hj
theorem RH.take {i : Nat} {oi : Oper} (hi : ops[i]? = some oi) (hs : Region.noSelect ops = true) (hff : waitsB .any ops fin listed i = true ∧ Region.free .any ops listed i = true) (hr : (Region.ready .any ops listed).contains i = true) (hQ : PanicOk Q)
    (hy : ∀ a, Fits n e ⟨ds, none⟩ a → YieldsIf P ops (SJ J) oi v a) (hp : putE n oi.dst v e = some e') (h : RH P ops Q J fin fuel (listed.setIfInBounds i true) n e' ds m) : RH P ops Q J fin (fuel + 1) listed n e ds m :=
  fun a w hfi hw hj => by
    exact wpAnyF_take hi hs hff.1 hff.2 hr (fun c a w hh => hQ c a w _ _ hh) (hy a hfi) ⟨m, hw, hj⟩ (h _ w (hfi.put hp) hw hj)
theorem runPI_sound (hT : T.Ok P) (hs : Region.noSelect ops = true) (hQ : PanicOk Q) : ∀ (is : List Nat) (listed : Array Bool) (e e' : Env), takesB ops fin listed is = true → runPI T ops n is e = some e' →
    RH P ops Q J fin fuel (setAll listed is) n e' ds m → RH P ops Q J fin (fuel + is.length) listed n e ds m
  | [], listed, e, e', _, h, hk => by simp only [runPI, Option.some.injEq] at h; subst h; exact hk
  | i :: r, listed, e, e', hB, h, hk => by
    simp only [takesB, Bool.and_eq_true] at hB
    unfold runPI at h
    split at h
    · rename_i o ho
      split at h
      · rename_i hg
        split at h
        · rename_i v hv
          split at h
          · rename_i e1 he1
            exact RH.take ho hs hB.1.1 hB.1.2 hQ (fun a hf => .inl ⟨gd_sound hf hg, fun w _ => pv_sound hT hf hv w⟩) he1 (runPI_sound hT hs hQ r _ e1 e' hB.2 h hk)
          · cases h
        · cases h
      · rename_i hg
        split at h
        · rename_i e1 he1
          exact RH.take ho hs hB.1.1 hB.1.2 hQ (fun a hf => .inr ⟨gd_sound hf hg, rfl⟩) he1 (runPI_sound hT hs hQ r _ e1 e' hB.2 h hk)
        · cases h
      · cases h
    · cases h
/-- Operations on values alone. -/
theorem RH.pure (hT : T.Ok P) (hQ : PanicOk Q) (is : List Nat) (hB : (Region.noSelect ops && takesB ops fin listed is) = true) (h : runPI T ops n is e = some e') (hk : RH P ops Q J fin fuel (setAll listed is) n e' ds m) : RH P ops Q J fin (fuel + is.length) listed n e ds m := by
  simp only [Bool.and_eq_true] at hB
  exact runPI_sound hT hB.1 hQ is listed e e' hB.2 h hk
def takesFB (ops : Array Oper) (fin : List Nat) : Array Bool → List Nat → Bool
  | _, [] => true
  | listed, i :: r => (fin.contains i && Region.free .any ops listed i) && (Region.ready .any ops listed).contains i && takesFB ops fin (listed.setIfInBounds i true) r
theorem runPI_soundF (hT : T.Ok P) (hs : Region.noSelect ops = true) (hQ : PanicOk Q) : ∀ (is : List Nat) (listed : Array Bool) (e e' : Env), takesFB ops fin listed is = true → runPI T ops n is e = some e' →
    RH P ops Q J fin fuel (setAll listed is) n e' ds m → RH P ops Q J fin (fuel + is.length) listed n e ds m
  | [], listed, e, e', _, h, hk => by simp only [runPI, Option.some.injEq] at h; subst h; exact hk
  | i :: r, listed, e, e', hB, h, hk => by
    simp only [takesFB, Bool.and_eq_true] at hB
    have hfi : i ∈ fin := by simpa using hB.1.1.1
    unfold runPI at h
    split at h
    · rename_i o ho
      have put : ∀ {v : Value} {e1 : Env}, putE n o.dst v e = some e1 → (∀ a, Fits n e ⟨ds, none⟩ a → YieldsIf P ops (fun _ => True) o v a) → RH P ops Q J fin (fuel + r.length) (listed.setIfInBounds i true) n e1 ds m → RH P ops Q J fin (fuel + (i :: r).length) listed n e ds m := fun he1 hy hk a w hf hw hj =>
        wpAnyF_firstP ho (Region.noSelect_spec hs) hfi (fun c a w hh => hQ c a w _ _ hh) (fuel + r.length) listed a w (Region.free_spec ho hB.1.1.2) (by simpa using hB.1.2) (hy a hf) (hk _ w (hf.put he1) hw hj)
      split at h
      · rename_i hg
        split at h
        · rename_i v hv
          split at h
          · rename_i e1 he1
            exact put he1 (fun a hf => .inl ⟨gd_sound hf hg, fun w _ => pv_sound hT hf hv w⟩) (runPI_soundF hT hs hQ r _ e1 e' hB.2 h hk)
          · cases h
        · cases h
      · rename_i hg
        split at h
        · rename_i e1 he1
          exact put he1 (fun a hf => .inr ⟨gd_sound hf hg, rfl⟩) (runPI_soundF hT hs hQ r _ e1 e' hB.2 h hk)
        · cases h
      · cases h
    · cases h
/-- Operations on values alone that are of 'fin': whenever they come. -/
theorem RH.pureF (hT : T.Ok P) (hQ : PanicOk Q) (is : List Nat) (hB : (Region.noSelect ops && takesFB ops fin listed is) = true) (h : runPI T ops n is e = some e') (hk : RH P ops Q J fin fuel (setAll listed is) n e' ds m) : RH P ops Q J fin (fuel + is.length) listed n e ds m := by
  simp only [Bool.and_eq_true] at hB
  exact runPI_soundF hT hB.1 hQ is listed e e' hB.2 h hk
/-- A load. -/
theorem RH.load (hT : T.Ok P) (hQ : PanicOk Q) (i : Nat) {d : Option Tmp} {t ty : TypeId} {x : Operand} {pos : String} {aft : Array Edge} {g : Option (Nat × Bool)} {p : Addr} (hc : ∀ m', J m' → m'.cell? p = some v)
    (hi : ops[i]? = some ⟨d, .load t x, ty, pos, aft, g⟩) (hB : (Region.noSelect ops && takesB ops fin listed [i]) = true) (hg : gd ops e ⟨d, .load t x, ty, pos, aft, g⟩ = some true) (hx : e.ev x = some (.pointer (some p))) (ht : T.plain t = true)
    (hp : putE n d v e = some e') (h : RH P ops Q J fin fuel (listed.setIfInBounds i true) n e' ds m) : RH P ops Q J fin (fuel + 1) listed n e ds m := by
  simp only [takesB, Bool.and_eq_true, Bool.and_true] at hB
  obtain ⟨r, hr, hk, ha, _⟩ := Ty.plain_spec ht
  refine RH.take hi hB.1 hB.2.1 hB.2.2 hQ (fun a hf => .inl ⟨gd_sound hf hg, fun w ⟨m', hs, hj⟩ => ?_⟩) hp h
  have h1 := (hT.row hr).run_isAgg hk w
  rw [ha] at h1
  simp [execOp, hf.ev hx, Instr.loadAt, Instr.sureAddr, loadVar, h1, hs.cell, hc m' hj]
theorem RH.loadAgg (hT : T.Ok P) (hQ : PanicOk Q) (i : Nat) {d : Option Tmp} {t ty : TypeId} {x : Operand} {pos : String} {aft : Array Edge} {g : Option (Nat × Bool)} {p : Addr} (vs : List Value) (hc : ∀ m', J m' → ∀ j u, vs[j]? = some u → m'.cell? (p.add j) = some u)
    (hi : ops[i]? = some ⟨d, .load t x, ty, pos, aft, g⟩) (hB : (Region.noSelect ops && takesB ops fin listed [i]) = true) (hg : gd ops e ⟨d, .load t x, ty, pos, aft, g⟩ = some true) (hx : e.ev x = some (.pointer (some p))) (ht : T.aggN t = some vs.length)
    (hp : putE n d (.agg vs.toArray) e = some e') (h : RH P ops Q J fin fuel (listed.setIfInBounds i true) n e' ds m) : RH P ops Q J fin (fuel + 1) listed n e ds m := by
  simp only [takesB, Bool.and_eq_true, Bool.and_true] at hB
  obtain ⟨r, hr, ha, hsz⟩ := Ty.aggN_spec ht
  refine RH.take hi hB.1 hB.2.1 hB.2.2 hQ (fun a hf => .inl ⟨gd_sound hf hg, fun w ⟨m', hs, hj⟩ => ?_⟩) hp h
  have h1 := (hT.row hr).run_isAgg (TyK.known_of_agg ha) w
  rw [ha] at h1
  have h2 := (hT.row hr).run_size w
  rw [hsz] at h2
  have h3 := run_loadCells_list (P := P) w p vs (fun j u hu => (hs.cell _).trans (hc m' hj j u hu))
  simp [execOp, hf.ev hx, Instr.loadAt, Instr.sureAddr, loadVar, h1, h2, h3]
/-- An element's address. -/
theorem RH.indexAddr (hT : T.Ok P) (hQ : PanicOk Q) (i : Nat) {d : Option Tmp} {t te ty : TypeId} {x y : Operand} {pos : String} {aft : Array Edge} {g : Option (Nat × Bool)} {ad : Addr} {len cap k : Nat} {j : Int} {kk : IntKind} {rt r : Row}
    (hi : ops[i]? = some ⟨d, .indexAddr t x y, ty, pos, aft, g⟩) (hB : (Region.noSelect ops && takesB ops fin listed [i]) = true) (hrt : T.row t = some rt) (hk : rt.k = .sli te) (hr : T.row te = some r)
    (hg : gd ops e ⟨d, .indexAddr t x y, ty, pos, aft, g⟩ = some true) (hx : e.ev x = some (.slice (some ad) len cap)) (hy : e.ev y = some (.int kk j)) (hj : j = (k : Int)) (hlt : k < len)
    (hp : putE n d (.pointer (some (ad.add (k * r.size)))) e = some e') (h : RH P ops Q J fin fuel (listed.setIfInBounds i true) n e' ds m) : RH P ops Q J fin (fuel + 1) listed n e ds m := by
  simp only [takesB, Bool.and_eq_true, Bool.and_true] at hB
  subst hj
  have hu := (hT.row hrt).k
  rw [hk] at hu
  refine RH.take hi hB.1 hB.2.1 hB.2.2 hQ (fun a hf => .inl ⟨gd_sound hf hg, fun w ⟨m', hs, hj⟩ => ?_⟩) hp h
  simp [execOp, hf.ev hx, hf.ev hy, Instr.indexAt, asIntOf, run_underlying hu, (hT.row hr).run_size, hlt]
/-- What stands behind the one operation. -/
def onlyK (P : Program) (ops : Array Oper) (Q : Exit → Act → World → Prop) (J : World → Prop) (fin : List Nat) (i : Nat) (fuel : Nat) (listed : Array Bool) : Act → World → Prop := fun a w => (i ∈ fin ∨ SJ J w) ∧ wpAnyF P .any ops Q (SJ J) fin fuel listed a w
/-- The one operation that may come up. -/
theorem RF.only (i : Nat) {o : Oper} (hi : ops[i]? = some o) (hr : (Region.ready .any ops listed == [i]) = true) (h : RL P ops (Exit.then (onlyK P ops Q J fin i fuel (listed.setIfInBounds i true)) Q) [o] n e ⟨ds, none⟩ m) : RF P ops Q J fin (fuel + 1) listed n e ds m := by
  intro a w hf hw
  have hr' : Region.ready .any ops listed = [i] := eq_of_beq hr
  refine wpAnyF_all hr' (by simp) (fun i' hi' => ?_)
  have : i' = i := by simpa using hi'
  subst this
  have h1 := h a w hf hw
  unfold wpOpIn
  simp only [hi]
  unfold wpListIn at h1
  split
  · rename_i hwa
    rw [if_pos hwa] at h1
    refine ⟨fun _ _ => trivial, ?_⟩
    have h1 := h1.2
    change Oper.uponIn Fence.wide 0 P o a _ _ ((Oper.semAt Fence.wide.round a.eval o).run P w) at h1
    generalize (Oper.semAt Fence.wide.round a.eval o).run P w = r at *
    cases r with
    | ok x w' =>
      cases x <;> simp only [Oper.uponIn] at h1 ⊢
      case value u => exact h1
      case skip => exact h1
      case defer d => exact h1
      case enter f args =>
        refine ⟨h1.1, CallsIn.mono h1.2 fun e w'' he => ?_⟩
        cases e with
        | returned u => exact he
        | panicked c => exact he
        | outgrown => obtain ⟨a0, w0, h2⟩ := he; exact ⟨a0, w0, h2⟩
      case row row args => exact ⟨h1.1, RowsIn.mono h1.2 fun u w'' he => he⟩
      case round l f tmps assign body =>
        refine ⟨h1.1, RoundIn.mono h1.2 fun e w'' he => ?_⟩
        cases e with
        | returned u => exact he
        | panicked c => exact he
        | outgrown => obtain ⟨a0, w0, h2⟩ := he; exact ⟨a0, w0, h2⟩
    | halt x w' =>
      cases x <;> simp only [Oper.uponIn] at h1 ⊢
      case panic u => exact h1
  · rename_i hwa
    rw [if_neg hwa] at h1
    exact ⟨fun _ _ => trivial, h1.2⟩
theorem RH.only (i : Nat) {o : Oper} (hi : ops[i]? = some o) (hr : (Region.ready .any ops listed == [i]) = true) (h : J m → RL P ops (Exit.then (onlyK P ops Q J fin i fuel (listed.setIfInBounds i true)) Q) [o] n e ⟨ds, none⟩ m) : RH P ops Q J fin (fuel + 1) listed n e ds m :=
  fun a w hf hw hj => RF.only i hi hr (h hj) a w hf hw
theorem RH.cont {i : Nat} (hj : J m) (h : RH P ops Q J fin fuel listed n e ds m) : QN (Exit.then (onlyK P ops Q J fin i fuel listed) Q) .normal n e ⟨ds, none⟩ m := fun a w hf hw => ⟨.inr ⟨m, hw, hj⟩, h a w hf hw hj⟩
theorem RF.cont {i : Nat} (hi : fin.contains i = true) (h : RF P ops Q J fin fuel listed n e ds m) : QN (Exit.then (onlyK P ops Q J fin i fuel listed) Q) .normal n e ⟨ds, none⟩ m := fun a w hf hw => ⟨.inl (by simpa using hi), h a w hf hw⟩
theorem RF.done (hr : (Region.ready .any ops listed).isEmpty = true) (h : QN Q .normal n e ⟨ds, none⟩ m) : RF P ops Q J fin fuel listed n e ds m := fun a w hf hw => wpAnyF_done (by simpa using hr) (h a w hf hw) fuel
theorem RH.done (hr : (Region.ready .any ops listed).isEmpty = true) (h : J m → QN Q .normal n e ⟨ds, none⟩ m) : RH P ops Q J fin fuel listed n e ds m := fun a w hf hw hj => wpAnyF_done (by simpa using hr) (h hj a w hf hw) fuel
/-- The last operation, one of 'fin'. -/
theorem RF.last {i : Nat} (hB : (fin.contains i && (Region.ready .any ops listed).isEmpty) = true) (h : QN Q .normal n e ⟨ds, none⟩ m) : QN (Exit.then (onlyK P ops Q J fin i fuel listed) Q) .normal n e ⟨ds, none⟩ m := by
  simp only [Bool.and_eq_true] at hB
  exact RF.cont hB.1 (RF.done hB.2 h)
end
end Go.Ev
