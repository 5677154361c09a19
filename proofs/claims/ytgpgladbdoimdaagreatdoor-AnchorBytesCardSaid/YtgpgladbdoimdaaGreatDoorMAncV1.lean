/- Texts that belong together. -/
import Derived.WalkKit
import Derived.TacticsIn
import Derived.Lib.Hide
import Derived.Deep.Quiet
import Derived.Laws.Tables
import Derived.Great.BuildSlice
import Derived.Test.YtgpgladbdoimdaaGreatDoorProg
import Derived.KernelRfl
import Derived.OrdersHeld
import Derived.OrdersIn
namespace Go
theorem zS {α : Type _} {a : α} {l : List α} : a ∈ a :: l := List.mem_cons_self ..
theorem zO {α : Type _} (y : α) {a : α} {l : List α} (h : a ∈ l) : a ∈ y :: l := List.mem_cons_of_mem y h
theorem zC {α : Type _} {a : α} {l r : List α} : (a :: l) ++ r = a :: (l ++ r) := List.cons_append
theorem zN {α : Type _} (l : List α) : [] ++ l = l := List.nil_append l
end Go
section
namespace Go.Ev
open Go.RowKit
abbrev Env := List (Nat × Value)
def Env.get : Env → Nat → Option Value
  | [], _ => none
  | (t, v) :: r, x => match Nat.beq t x with
    | true => some v
    | false => Env.get r x
def Env.ev (e : Env) : Operand → Option Value
  | .tmp t => e.get t
  | .const v => some v
  | .global g => some (.pointer (some ⟨g, 0, none⟩))
  | .func f => some (.func (.func f) #[] #[])
def Env.evs (e : Env) : List Operand → Option (List Value)
  | [] => some []
  | x :: r => match e.ev x with
    | some v => match Env.evs e r with
      | some vs => some (v :: vs)
      | none => none
    | none => none
structure Fr where
  ds : List Deferred
  ro : Option Nat
def fenceR (ro : Option Nat) : Fence := { Fence.wide with round := ro }
structure Fits (n : Nat) (e : Env) (D : Fr) (a : Act) : Prop where
  size : a.tmps.size = n
  defers : a.defers = D.ds
  get : ∀ t v, e.get t = some v → a.tmps[t]? = some v
structure Sim (m w : World) : Prop where
  heap : w.heap = m.heap
  os : w.os = m.os
  output : w.output = m.output
  tape : w.tape = m.tape
  drawn : m.drawn ≤ w.drawn
theorem Sim.refl (w : World) : Sim w w := ⟨rfl, rfl, rfl, rfl, Nat.le_refl _⟩
theorem Sim.drew {m w : World} (h : Sim m w) : Sim m w.drew := ⟨h.heap, h.os, h.output, h.tape, Nat.le_succ_of_le h.drawn⟩
theorem Sim.cell {m w : World} (h : Sim m w) (a : Addr) : w.cell? a = m.cell? a := by simp [World.cell?, h.heap]
theorem Sim.alloc {m w : World} (h : Sim m w) (o : Obj) : Sim (m.alloc o) (w.alloc o) := ⟨by show w.heap.push o = m.heap.push o; rw [h.heap], h.os, h.output, h.tape, h.drawn⟩
section
variable {P : Program} {n : Nat} {e e' : Env} {D : Fr} {a : Act} {v : Value}
theorem getD_of_some {xs : Array Value} {t : Nat} {v : Value} (h : xs[t]? = some v) : xs.getD t undef = v := by
  simp [Array.getD_eq_getD_getElem?, h]
theorem Fits.ev (h : Fits n e D a) {x : Operand} (hx : e.ev x = some v) : a.eval x = v := by
  cases x with
  | tmp t => exact getD_of_some (h.get t v hx)
  | const c => exact Option.some.inj hx
  | global g => exact Option.some.inj hx
  | func f => exact Option.some.inj hx
theorem Fits.evs (h : Fits n e D a) : ∀ {l : List Operand} {vs : List Value}, e.evs l = some vs → l.map a.eval = vs
  | [], vs, hl => by injection hl
  | x :: r, vs, hl => by
    unfold Env.evs at hl
    split at hl
    · rename_i v hv
      split at hl
      · rename_i vs' hvs
        injection hl with hl
        subst hl
        simp [h.ev hv, h.evs hvs]
      · cases hl
    · cases hl
def putE (n : Nat) (dst : Option Tmp) (v : Value) (e : Env) : Option Env :=
  match dst with
  | none => some e
  | some d => match Nat.blt d n with
    | true => some ((d, v) :: e)
    | false => none
theorem Fits.put (h : Fits n e D a) {dst : Option Tmp} (hp : putE n dst v e = some e') : Fits n e' D (a.put dst v) := by
  cases dst with
  | none => simp only [putE, Option.some.injEq] at hp; subst hp; exact h
  | some d =>
    simp only [putE] at hp
    split at hp
    · rename_i hd
      injection hp with hp
      subst hp
      have hd' : d < n := by simpa [Nat.blt_eq] using hd
      refine ⟨by simp [Act.put, h.size], h.defers, fun t u ht => ?_⟩
      simp only [Act.put]
      unfold Env.get at ht
      split at ht
      · rename_i hb
        have : d = t := by simpa using hb
        subst this
        injection ht with ht
        subst ht
        rw [Array.getElem?_setIfInBounds]
        simp [h.size, hd']
      · rename_i hb
        have : d ≠ t := Nat.ne_of_beq_eq_false hb
        rw [Array.getElem?_setIfInBounds]
        simp [this, h.get t u ht]
    · cases hp
def Sub (e' : Env) (e : Env) : Prop := ∀ p ∈ e', e.get p.1 = some p.2
theorem Sub.nil {e : Env} : Sub [] e := fun _ h => by cases h
theorem Sub.C1 {t : Nat} {v : Value} {e' e : Env} (h : e.get t = some v) (hs : Sub e' e) : Sub ((t, v) :: e') e := fun p hp => by
  cases hp with
  | head => exact h
  | tail _ hp => exact hs p hp
theorem Env.get_mem {e : Env} {t : Nat} {v : Value} : e.get t = some v → (t, v) ∈ e := by
  induction e with
  | nil => intro h; cases h
  | cons p r ih =>
    obtain ⟨p1, p2⟩ := p
    intro h
    unfold Env.get at h
    split at h
    · rename_i hb
      have hb : p1 = t := by simpa using hb
      injection h with h
      subst hb; subst h
      exact zS ..
    · exact zO _ (ih h)
theorem Fits.sub (h : Fits n e D a) (hs : Sub e' e) : Fits n e' D a :=
  ⟨h.size, h.defers, fun t v ht => h.get t v (hs (t, v) (Env.get_mem ht))⟩
def gd (ops : Array Oper) (e : Env) (o : Oper) : Option Bool :=
  match o.guard with
  | none => some true
  | some g => match ops[g.1]? with
    | some oj => match oj.dst with
      | some t => match e.get t with
        | some (.bool b) => some (b == g.2)
        | some (.tuple _) => some false
        | _ => none
      | none => some false
    | none => some false
theorem gd_sound {ops : Array Oper} {o : Oper} {b : Bool} (h : Fits n e D a) (hg : gd ops e o = some b) : Region.wanted o (yielded ops a.tmps) = b := by
  unfold gd at hg
  unfold Region.wanted
  split at hg
  · rename_i h0; rw [h0]; simpa using hg
  · rename_i g h0
    obtain ⟨j, want⟩ := g
    rw [h0]
    simp only [yielded]
    split at hg
    · rename_i oj hj
      have hj' : ops[j]? = some oj := hj
      split at hg
      · rename_i t ht
        split at hg
        · rename_i b' hb; simp [hj', ht, h.get t _ hb]; simpa using hg
        · rename_i vs hb; simp [hj', ht, h.get t _ hb]; simpa using hg
        · cases hg
      · rename_i ht; simp [hj', ht]; simpa using hg
    · rename_i hj
      have hj' : ops[j]? = none := hj
      simp [hj']; simpa using hg
end
def RL (P : Program) (ops : Array Oper) (Q : Exit → Act → World → Prop) (l : List Oper) (n : Nat) (e : Env) (D : Fr) (m : World) : Prop :=
  ∀ a w, Fits n e D a → Sim m w → wpListIn (fenceR D.ro) 0 P ops Q l a w
def WP (P : Program) (c : Code) (Q : Exit → Act → World → Prop) (n : Nat) (e : Env) (D : Fr) (m : World) : Prop :=
  ∀ a w, Fits n e D a → Sim m w → c.wpIn (fenceR D.ro) 0 P Q a w
def QN (Q : Exit → Act → World → Prop) (x : Exit) (n : Nat) (e : Env) (D : Fr) (m : World) : Prop :=
  ∀ a w, Fits n e D a → Sim m w → Q x a w
section
variable {P : Program} {ops : Array Oper} {Q : Exit → Act → World → Prop} {l rest : List Oper} {o : Oper} {n : Nat} {e e' : Env} {D : Fr} {m : World} {c x y : Code}
theorem RL.N1 (h : QN Q .normal n e D m) : RL P ops Q [] n e D m := fun a w hf hs => h a w hf hs
theorem RL.sub (hs : Sub e' e) (h : RL P ops Q l n e' D m) : RL P ops Q l n e D m := fun a w hf hw => h a w (hf.sub hs) hw
theorem RL.eqv {t : Nat} {v v' : Value} (hv : v = v') (h : RL P ops Q l n ((t, v') :: e) D m) : RL P ops Q l n ((t, v) :: e) D m := by subst hv; exact h
theorem WP.eqv {t : Nat} {v v' : Value} (hv : v = v') (h : WP P c Q n ((t, v') :: e) D m) : WP P c Q n ((t, v) :: e) D m := by subst hv; exact h
theorem QN.sub {x : Exit} (hs : Sub e' e) (h : QN Q x n e' D m) : QN Q x n e D m := fun a w hf hw => h a w (hf.sub hs) hw
theorem RL.step (hg : gd ops e o = some true) (h : ∀ a w, Fits n e D a → Sim m w → o.wpIn (fenceR D.ro) 0 P a w (wpListIn (fenceR D.ro) 0 P ops Q rest) Q) : RL P ops Q (o :: rest) n e D m := by
  intro a w hf hs
  unfold wpListIn
  rw [gd_sound hf hg, if_pos rfl]
  exact h a w hf hs
theorem RL.skip (hg : gd ops e o = some false) (hp : putE n o.dst undef e = some e') (h : RL P ops Q rest n e' D m) : RL P ops Q (o :: rest) n e D m := by
  intro a w hf hs
  unfold wpListIn
  rw [gd_sound hf hg, if_neg (by decide)]
  exact ⟨fun _ _ => trivial, h _ w (hf.put hp) hs⟩
theorem RL.run (hg : gd ops e o = some true) (hd : ∀ c, o.op ≠ .defer c) (h : ∀ a w, Fits n e D a → Sim m w → o.uponIn (fenceR D.ro) 0 P a (wpListIn (fenceR D.ro) 0 P ops Q rest) Q ((execOp a.eval o).run P w)) : RL P ops Q (o :: rest) n e D m :=
  RL.step hg fun a w hf hs => ⟨fun _ _ => trivial, by rw [Oper.semAt_eq _ _ _ hd]; exact h a w hf hs⟩
theorem no_defer {o : Oper} {ρ : Operand → Value} {w w' : World} {nx : Next} (h : (execOp ρ o).run P w = .ok nx w') (hn : ∀ d, nx ≠ .defer d) (c : Call) : o.op ≠ .defer c := by
  intro hc
  simp only [execOp, hc, Sem.run_bind] at h
  cases hr : (resolve ρ c o.type).run P w with
  | ok d w1 => rw [hr] at h; simp [Result.andThen] at h; exact hn d h.1.symm
  | halt x w1 => rw [hr] at h; simp [Result.andThen] at h
theorem RL.ofRun (hg : gd ops e o = some true) (h : ∀ a w, Fits n e D a → Sim m w → ∃ nx w', (execOp a.eval o).run P w = .ok nx w' ∧ (∀ d, nx ≠ .defer d) ∧ o.uponIn (fenceR D.ro) 0 P a (wpListIn (fenceR D.ro) 0 P ops Q rest) Q (.ok nx w')) : RL P ops Q (o :: rest) n e D m :=
  RL.step hg fun a w hf hs => by
    obtain ⟨nx, w', h1, h2, h3⟩ := h a w hf hs
    refine ⟨fun _ _ => trivial, ?_⟩
    rw [Oper.semAt_eq _ _ _ (no_defer h1 h2), h1]
    exact h3
theorem RL.value (v : Value) (hg : gd ops e o = some true) (hr : ∀ a w, Fits n e D a → Sim m w → (execOp a.eval o).run P w = .ok (.value v) w)
    (hp : putE n o.dst v e = some e') (h : RL P ops Q rest n e' D m) : RL P ops Q (o :: rest) n e D m :=
  RL.ofRun hg fun a w hf hs => ⟨_, w, hr a w hf hs, (fun _ hh => by cases hh), h _ w (hf.put hp) hs⟩
theorem RL.valueW (v : Value) (m' : World) (hg : gd ops e o = some true) (hr : ∀ a w, Fits n e D a → Sim m w → ∃ w', (execOp a.eval o).run P w = .ok (.value v) w' ∧ Sim m' w')
    (hp : putE n o.dst v e = some e') (h : RL P ops Q rest n e' D m') : RL P ops Q (o :: rest) n e D m :=
  RL.ofRun hg fun a w hf hs => by
    obtain ⟨w', h1, h2⟩ := hr a w hf hs
    exact ⟨_, w', h1, (fun _ hh => by cases hh), h _ w' (hf.put hp) h2⟩
theorem RL.skipW (m' : World) (hg : gd ops e o = some true) (hr : ∀ a w, Fits n e D a → Sim m w → ∃ w', (execOp a.eval o).run P w = .ok .skip w' ∧ Sim m' w')
    (hp : putE n o.dst undef e = some e') (h : RL P ops Q rest n e' D m') : RL P ops Q (o :: rest) n e D m :=
  RL.ofRun hg fun a w hf hs => by
    obtain ⟨w', h1, h2⟩ := hr a w hf hs
    exact ⟨_, w', h1, (fun _ hh => by cases hh), h _ w' (hf.put hp) h2⟩
theorem RL.valueX {R : Value → World → Prop} (hg : gd ops e o = some true) (hr : ∀ a w, Fits n e D a → Sim m w → ∃ v w' m', (execOp a.eval o).run P w = .ok (.value v) w' ∧ Sim m' w' ∧ R v m')
    (h : ∀ v m', R v m' → ∃ e', putE n o.dst v e = some e' ∧ RL P ops Q rest n e' D m') : RL P ops Q (o :: rest) n e D m :=
  RL.ofRun hg fun a w hf hs => by
    obtain ⟨v, w', m', h1, h2, h3⟩ := hr a w hf hs
    obtain ⟨e', hp, hk⟩ := h v m' h3
    exact ⟨_, w', h1, (fun _ hh => by cases hh), hk _ w' (hf.put hp) h2⟩
theorem WP.R1 {id : Nat} {l : List Oper} (h : RL P l.toArray Q l n e D m) : WP P (.region id l.toArray false) Q n e D m :=
  fun a w hf hs => wpIn_region_lit (h a w hf hs)
theorem WP.S1 {ds : List Deferred} {ro : Option Nat} (h : WP P x (Exit.then (fun a w => y.wpIn (fenceR ro) 0 P Q a w) Q) n e ⟨ds, ro⟩ m) : WP P (.seq x y) Q n e ⟨ds, ro⟩ m := fun a w hf hs => wpIn_seq (h a w hf hs)
theorem WP.B1 {id : Nat} (h : WP P c (Exit.inBlock id Q) n e D m) : WP P (.block id c) Q n e D m := fun a w hf hs => wpIn_block (h a w hf hs)
theorem WP.skip (h : QN Q .normal n e D m) : WP P .skip Q n e D m := fun a w hf hs => wpIn_skip (h a w hf hs)
theorem WP.exit {id : Nat} (h : QN Q (.exit id) n e D m) : WP P (.exit id) Q n e D m := fun a w hf hs => wpIn_exit (h a w hf hs)
theorem WP.ret (h : QN Q .ret n e D m) : WP P .ret Q n e D m := fun a w hf hs => wpIn_ret (h a w hf hs)
theorem WP.cond {c : Operand} {b : Bool} (hc : e.ev c = some (.bool b)) (ht : b = true → WP P x Q n e D m) (hf : b = false → WP P y Q n e D m) : WP P (.cond c x y) Q n e D m :=
  fun a w hfi hs => wpIn_cond_split (hfi.ev hc) (fun hb => ht hb a w hfi hs) (fun hb => hf hb a w hfi hs)
theorem WP.condT {c : Operand} (hc : e.ev c = some (.bool true)) (ht : WP P x Q n e D m) : WP P (.cond c x y) Q n e D m :=
  fun a w hfi hs => wpIn_cond_true (hfi.ev hc) (ht a w hfi hs)
theorem WP.condF {c : Operand} (hc : e.ev c = some (.bool false)) (ht : WP P y Q n e D m) : WP P (.cond c x y) Q n e D m :=
  fun a w hfi hs => wpIn_cond_false (hfi.ev hc) (ht a w hfi hs)
def loopQ {X : Type} (E : X → Env) (I : X → World → Prop) (μ : X → Nat) (n : Nat) (D : Fr) (x : X) (a : Act) (w : World) : Prop :=
  ∃ x' m', Fits n (E x') D a ∧ Sim m' w ∧ I x' m' ∧ μ x' < μ x
theorem WP.loop {X : Type} (E : X → Env) (I : X → World → Prop) (μ : X → Nat) (x0 : X) (hs : Sub (E x0) e) (h0 : I x0 m)
    (round : ∀ x m, I x m → WP P c (Exit.then (loopQ E I μ n D x) Q) n (E x) D m) : WP P (.loop c) Q n e D m := by
  intro a w hf hw b k cs hro hb hr
  have key : ∀ (k' : Nat) (x : X) (a : Act) (w m : World), μ x = k' → Fits n (E x) D a → Sim m w → I x m →
      ∃ ex a' w', Q ex a' w' ∧ ArrivesIn (Machine.fenced P (fenceR D.ro)) P (lone (b.atR a (.code c :: .inLoop c :: k)) cs w) b k cs ex a' w' := by
    intro k'
    induction k' using Nat.strongRecOn with
    | _ k' ih =>
      intro x a w m hk hfa hwa hI
      obtain ⟨ex, a₁, w₁, hq, harr⟩ := round x m hI a w hfa hwa b (.inLoop c :: k) cs hro hb hr
      cases ex with
      | normal =>
        obtain ⟨x', m', hfx, hsx, hIx, hlt⟩ := hq
        obtain ⟨e₂, a₂, w₂, hq₂, harr₂⟩ := ih (μ x') (hk ▸ hlt) x' a₁ w₁ m' rfl hfx hsx hIx
        exact ⟨e₂, a₂, w₂, hq₂, .of_steps (StepsIn.trans harr (.one (fenced_calm hb hr rfl) stepR_inLoop)) harr₂⟩
      | exit id => exact ⟨_, a₁, w₁, hq, .pass (x := .inLoop c) rfl (fun _ _ => .inl (by simp)) harr⟩
      | goto l => exact ⟨_, a₁, w₁, hq, .pass (x := .inLoop c) rfl (fun _ _ => .inl (by simp)) harr⟩
      | ret => exact ⟨_, a₁, w₁, hq, .pass (x := .inLoop c) rfl (fun _ _ => .inl (by simp)) harr⟩
      | panic ch => exact ⟨_, a₁, w₁, hq, .pass (x := .inLoop c) rfl (fun _ _ => .inl (by simp)) harr⟩
      | outgrown => exact ⟨_, a₁, w₁, hq, .pass (x := .inLoop c) rfl (fun _ _ => .inl (by simp)) harr⟩
  obtain ⟨ex, a', w', hq, harr⟩ := key _ x0 a w m rfl (hf.sub hs) hw h0
  exact ⟨ex, a', w', hq, .of_steps (.one (fenced_calm hb hr rfl) stepR_loop) harr⟩
theorem QN.round {X : Type} {E : X → Env} {I : X → World → Prop} {μ : X → Nat} {x : X} (x' : X) (hs : Sub (E x') e) (hI : I x' m) (hlt : μ x' < μ x) :
    QN (Exit.then (loopQ E I μ n D x) Q) .normal n e D m := fun _ _ hf hw => ⟨x', m, hf.sub hs, hw, hI, hlt⟩
theorem QN.N1 {ds : List Deferred} {ro : Option Nat} (h : WP P y Q n e ⟨ds, ro⟩ m) : QN (Exit.then (fun a w => y.wpIn (fenceR ro) 0 P Q a w) Q) .normal n e ⟨ds, ro⟩ m := fun a w hf hw => h a w hf hw
theorem QN.tr {K : Act → World → Prop} (h : QN Q .ret n e D m) : QN (Exit.then K Q) .ret n e D m := h
theorem QN.tx {K : Act → World → Prop} {id : Nat} (h : QN Q (.exit id) n e D m) : QN (Exit.then K Q) (.exit id) n e D m := h
theorem QN.tp {K : Act → World → Prop} {ch : List PanicEntry} (h : QN Q (.panic ch) n e D m) : QN (Exit.then K Q) (.panic ch) n e D m := h
theorem QN.bp {id : Nat} {ch : List PanicEntry} (h : QN Q (.panic ch) n e D m) : QN (Exit.inBlock id Q) (.panic ch) n e D m := h
theorem QN.B1 {id : Nat} (h : QN Q .normal n e D m) : QN (Exit.inBlock id Q) .normal n e D m := h
theorem QN.br {id : Nat} (h : QN Q .ret n e D m) : QN (Exit.inBlock id Q) .ret n e D m := h
theorem QN.bx {id : Nat} (h : QN Q .normal n e D m) : QN (Exit.inBlock id Q) (.exit id) n e D m := fun a w hf hw => by
  simp only [Exit.inBlock, if_true]; exact h a w hf hw
theorem QN.block_far {id id' : Nat} (hne : Nat.beq id' id = false) (h : QN Q (.exit id') n e D m) : QN (Exit.inBlock id Q) (.exit id') n e D m := fun a w hf hw => by
  simp only [Exit.inBlock, if_neg (show ¬ id' = id from fun hh => by subst hh; simp at hne)]; exact h a w hf hw
theorem WP.cut {X : Type} (E : X → Env) (I : X → World → Prop) (h1 : WP P x (Exit.then (fun a w => ∃ x' m', Fits n (E x') D a ∧ Sim m' w ∧ I x' m') Q) n e D m)
    (h2 : ∀ x' m', I x' m' → WP P y Q n (E x') D m') : WP P (.seq x y) Q n e D m := by
  intro a w hf hw
  refine wpIn_seq (wpIn_mono (h1 a w hf hw) fun ex a' w' hq => ?_)
  cases ex with
  | normal => obtain ⟨x', m', hfx, hsx, hI⟩ := hq; exact h2 x' m' hI a' w' hfx hsx
  | exit id => exact hq
  | goto l => exact hq
  | ret => exact hq
  | panic ch => exact hq
  | outgrown => exact hq
theorem QN.cutEnd {X : Type} {E : X → Env} {I : X → World → Prop} (x' : X) (hs : Sub (E x') e) (hI : I x' m) :
    QN (Exit.then (fun a w => ∃ x' m', Fits n (E x') D a ∧ Sim m' w ∧ I x' m') Q) .normal n e D m := fun _ _ hf hw => ⟨x', m, hf.sub hs, hw, hI⟩
end
theorem WP.wp {P : Program} {c : Code} {Q : Exit → Act → World → Prop} {n : Nat} {e : Env} {ds : List Deferred} {m : World} (h : WP P c Q n e ⟨ds, none⟩ m) (a : Act) (w : World) (hf : Fits n e ⟨ds, none⟩ a) (hs : Sim m w) : c.wp P Q a w :=
  wpIn_wide.1 (h a w hf hs)
theorem WP.of_wp {P : Program} {c : Code} {Q : Exit → Act → World → Prop} {n : Nat} {e : Env} {ds : List Deferred} {m : World} (h : ∀ a w, Fits n e ⟨ds, none⟩ a → Sim m w → c.wp P Q a w) : WP P c Q n e ⟨ds, none⟩ m :=
  fun a w hf hs => wpIn_wide.2 (h a w hf hs)
theorem Calls.fr {P : Program} {f : FuncId} {args : Array Value} {w : World} {R : Ending → World → Prop} (D : Fr) (n : Nat) (h : Calls P f args w R) : CallsIn (fenceR D.ro) n P f args w R :=
  (callsIn_wide (n := n)).2 h
def Callable (P : Program) (f : FuncId) : Prop := ∃ fn, P.funcs[f]? = some fn ∧ (fn.name == "runtime.NumGoroutine") = false ∧ fn.body.isNone = false
def FnE (P : Program) (f : FuncId) (args : List Value) (m : World) (post : Ending → World → Prop) : Prop :=
  Callable P f ∧ ∀ w, Sim m w → Calls P f args.toArray w fun e w' => ∃ m', Sim m' w' ∧ post e m'
def FnR (P : Program) (f : FuncId) (args : List Value) (m : World) (post : Value → World → Prop) : Prop :=
  FnE P f args m fun e m' => ∃ v, e = .returned v ∧ post v m'
theorem FnE.mono {P : Program} {f : FuncId} {args : List Value} {m : World} {post post' : Ending → World → Prop} (h : FnE P f args m post) (hp : ∀ e m', post e m' → post' e m') : FnE P f args m post' :=
  ⟨h.1, fun w hs => (h.2 w hs).mono fun _ _ ⟨m', h1, h2⟩ => ⟨m', h1, hp _ _ h2⟩⟩
theorem FnR.mono {P : Program} {f : FuncId} {args : List Value} {m : World} {post post' : Value → World → Prop} (h : FnR P f args m post) (hp : ∀ v m', post v m' → post' v m') : FnR P f args m post' :=
  FnE.mono h fun _ _ ⟨v, h1, h2⟩ => ⟨v, h1, hp _ _ h2⟩
def bodyQ (P : Program) (fn : Func) (post : Ending → World → Prop) : Exit → Act → World → Prop := bodyPost P fn fun e w' => ∃ m', Sim m' w' ∧ post e m'
def argsEnv : Nat → List Value → Env
  | _, [] => []
  | k, v :: r => (k, v) :: argsEnv (k + 1) r
theorem argsEnv_get : ∀ (l : List Value) (k t : Nat) (v : Value), (argsEnv k l).get t = some v → k ≤ t ∧ l[t - k]? = some v
  | [], _, _, _, h => by cases h
  | u :: r, k, t, v, h => by
    unfold argsEnv Env.get at h
    split at h
    · rename_i hb
      have hb : k = t := by simpa using hb
      injection h with h
      subst hb; subst h
      simp
    · rename_i hb
      have hb : k ≠ t := Nat.ne_of_beq_eq_false hb
      obtain ⟨h1, h2⟩ := argsEnv_get r (k + 1) t v h
      refine ⟨by omega, ?_⟩
      rw [show t - k = (t - (k + 1)) + 1 by omega]
      simpa using h2
theorem FnE.enter {P : Program} {f : FuncId} {fn : Func} {c : Code} {args : List Value} {m : World} {post : Ending → World → Prop} (hc : Callable P f)
    (hf : P.funcs[f]? = some fn) (hb : fn.body = some c) (hn : Nat.ble args.length fn.ntmps = true) (h : WP P c (bodyQ P fn post) fn.ntmps (argsEnv 0 args) ⟨[], none⟩ m) : FnE P f args m post :=
  ⟨hc, fun w hs => calls_of_wp hf hb (WP.wp h _ w ⟨by have := Nat.le_of_ble_eq_true hn; simp; omega, rfl, fun t v ht => by
    obtain ⟨_, h2⟩ := argsEnv_get args 0 t v ht
    simp only [Nat.sub_zero] at h2
    have hlt : t < args.length := (List.getElem?_eq_some_iff.1 h2).1
    rw [Array.getElem?_append_left (by simpa using hlt)]
    simpa using h2⟩ hs)⟩
theorem QN.ret0 {P : Program} {fn : Func} {post : Ending → World → Prop} {n : Nat} {e : Env} {m : World} (hr : fn.results = #[]) (h : post (.returned (.tuple #[])) m) : QN (bodyQ P fn post) .ret n e ⟨[], none⟩ m :=
  fun _ _ hf hs => ⟨hf.defers, .tuple #[], results_none hr _ _ _, m, hs, h⟩
theorem QN.end0 {P : Program} {fn : Func} {post : Ending → World → Prop} {n : Nat} {e : Env} {m : World} (hr : fn.results = #[]) (h : post (.returned (.tuple #[])) m) : QN (bodyQ P fn post) .normal n e ⟨[], none⟩ m :=
  fun _ _ hf hs => ⟨hf.defers, .tuple #[], results_none hr _ _ _, m, hs, h⟩
theorem QN.ret1 {P : Program} {fn : Func} {post : Ending → World → Prop} {n : Nat} {e : Env} {m : World} {t : Tmp} {v : Value} (hr : fn.results = #[.tmp t]) (ht : e.get t = some v) (h : post (.returned v) m) : QN (bodyQ P fn post) .ret n e ⟨[], none⟩ m :=
  fun _ _ hf hs => ⟨hf.defers, v, by rw [results_tmp hr, getD_of_some (hf.get t v ht)], m, hs, h⟩
theorem QN.ret2 {P : Program} {fn : Func} {post : Ending → World → Prop} {n : Nat} {e : Env} {m : World} {t u : Tmp} {v v' : Value} (hr : fn.results = #[.tmp t, .tmp u]) (ht : e.get t = some v) (hu : e.get u = some v') (h : post (.returned (.tuple #[v, v'])) m) : QN (bodyQ P fn post) .ret n e ⟨[], none⟩ m :=
  fun _ _ hf hs => ⟨hf.defers, _, by rw [results_tmp2 hr, getD_of_some (hf.get t v ht), getD_of_some (hf.get u v' hu)], m, hs, h⟩
theorem QN.panic {P : Program} {fn : Func} {post : Ending → World → Prop} {n : Nat} {e : Env} {m : World} {ch : List PanicEntry} (h : post (.panicked ch) m) : QN (bodyQ P fn post) (.panic ch) n e ⟨[], none⟩ m :=
  fun _ _ hf hs => ⟨hf.defers, m, hs, h⟩
end Go.Ev
end
section
namespace Go.Ev
open Go.RowKit
inductive TyK where
  | int (k : IntKind)
  | bool
  | str
  | ptr (e : TypeId)
  | sli (e : TypeId)
  | stru (fs : List (TypeId × Nat × Nat))
  | arr (n : Nat) (e : TypeId)
  | iface
  | map (k v : TypeId)
  | float (k : FloatKind)
  | func
  | other
structure Row where
  k : TyK
  size : Nat
  bytes : Nat
  zero : Value
def KOk (P : Program) (t : TypeId) : TyK → Prop
  | .int k => P.underlying t = some (.int k)
  | .bool => P.underlying t = some .bool
  | .str => P.underlying t = some .string
  | .ptr e => P.underlying t = some (.pointer e)
  | .sli e => P.underlying t = some (.slice e)
  | .stru fs => ∃ F, P.underlying t = some (.struct F) ∧ F.toList.map (fun f => (f.type, f.offset, P.cellsOf f.type)) = fs
  | .arr n e => P.underlying t = some (.array n e)
  | .iface => ∃ ms, P.underlying t = some (.interface ms)
  | .map k v => P.underlying t = some (.map k v)
  | .float k => P.underlying t = some (.float k)
  | .func => ∃ a b c, P.underlying t = some (.func a b c)
  | .other => True
structure ROk (P : Program) (t : TypeId) (r : Row) : Prop where
  k : KOk P t r.k
  info : (P.info? t).map (fun i => (i.zero, i.size, i.bytes)) = some (some r.zero, r.size, r.bytes)
inductive Ty where
  | leaf
  | node (l : Ty) (t : TypeId) (r : Row) (h : Ty)
  | norm (t : Ty)
def Ty.row : Ty → TypeId → Option Row
  | .leaf, _ => none
  | .node l t r h, x => match Nat.beq x t with
    | true => some r
    | false => match Nat.blt x t with
      | true => l.row x
      | false => h.row x
  | .norm t, x => t.row x
def Ty.Ok (P : Program) : Ty → Prop
  | .leaf => True
  | .node l t r h => l.Ok P ∧ ROk P t r ∧ h.Ok P
  | .norm t => t.Ok P
theorem Ty.Ok.row {P : Program} {x : TypeId} {r : Row} : ∀ {T : Ty}, T.Ok P → T.row x = some r → ROk P x r
  | .leaf, _, h => by cases h
  | .node l t r' hi, ok, h => by
    unfold Ty.row at h
    split at h
    · rename_i hb
      have hb : x = t := by simpa using hb
      injection h with h
      subst hb; subst h
      exact ok.2.1
    · split at h
      · exact Ty.Ok.row ok.1 h
      · exact Ty.Ok.row ok.2.2 h
  | .norm t, ok, h => Ty.Ok.row (T := t) ok h
section
variable {P : Program} {t : TypeId} {r : Row}
theorem ROk.parts (h : ROk P t r) : ∃ i, P.info? t = some i ∧ i.zero = some r.zero ∧ i.size = r.size ∧ i.bytes = r.bytes := info_parts h.info
theorem ROk.run_size (h : ROk P t r) (w : World) : (sizeOf t).run P w = .ok r.size w := by
  obtain ⟨i, hi, _, hs, _⟩ := h.parts
  simp [sizeOf, typeInfo, hi, hs]
theorem ROk.cells (h : ROk P t r) : P.cellsOf t = r.size := by
  obtain ⟨i, hi, _, hs, _⟩ := h.parts
  simp [Program.cellsOf, hi, hs]
theorem ROk.run_zero (h : ROk P t r) (w : World) : (zeroValue t).run P w = .ok r.zero w := by
  obtain ⟨i, hi, hz, _, _⟩ := h.parts
  simp [zeroValue, typeInfo, hi, hz]
def TyK.agg : TyK → Bool
  | .stru _ | .arr _ _ => true
  | _ => false
def TyK.known : TyK → Bool
  | .other => false
  | _ => true
theorem ROk.run_isAgg (h : ROk P t r) (hk : r.k.known = true) (w : World) : (isAgg t).run P w = .ok r.k.agg w := by
  have h1 := h.k
  cases hr : r.k <;> rw [hr] at h1 <;> simp only [KOk] at h1
  case stru fs => obtain ⟨F, hF, _⟩ := h1; simp [isAgg, run_underlying hF, TyK.agg]
  case iface => obtain ⟨F, hF⟩ := h1; simp [isAgg, run_underlying hF, TyK.agg]
  case func => obtain ⟨a, b, c, hF⟩ := h1; simp [isAgg, run_underlying hF, TyK.agg]
  case other => rw [hr] at hk; cases hk
  all_goals simp [isAgg, run_underlying h1, TyK.agg]
end
def kEq : IntKind → IntKind → Bool
  | .i8, .i8 => true | .i16, .i16 => true | .i32, .i32 => true | .i64, .i64 => true
  | .u8, .u8 => true | .u16, .u16 => true | .u32, .u32 => true | .u64, .u64 => true
  | _, _ => false
theorem kEq_eq {a b : IntKind} (h : kEq a b = true) : a = b := by cases a <;> cases b <;> simp_all [kEq]
def ifSame (k k' : IntKind) (v : Value) : Option Value := match kEq k k' with
  | true => some v
  | false => none
theorem ifSame_some {k k' : IntKind} {v u : Value} (h : ifSame k k' v = some u) : k = k' ∧ v = u := by
  unfold ifSame at h
  split at h
  · rename_i hk; exact ⟨kEq_eq hk, Option.some.inj h⟩
  · cases h
def shAmt (k : IntKind) (s : Nat) : Nat := min s k.bits
def intBin (op : BinOp) (k k' : IntKind) (a b : Int) : Option Value :=
  match op with
  | .add => ifSame k k' (.int k (k.wrap (a + b)))
  | .sub => ifSame k k' (.int k (k.wrap (a - b)))
  | .mul => ifSame k k' (.int k (k.wrap (a * b)))
  | .and => ifSame k k' (.int k (bits .and k a b))
  | .or => ifSame k k' (.int k (bits .or k a b))
  | .xor => ifSame k k' (.int k (bits .xor k a b))
  | .andNot => ifSame k k' (.int k (bits .andNot k a b))
  | .eql => ifSame k k' (.bool (a == b))
  | .neq => ifSame k k' (.bool (a != b))
  | .lss => ifSame k k' (.bool (decide (a < b)))
  | .leq => ifSame k k' (.bool (decide (a ≤ b)))
  | .gtr => ifSame k k' (.bool (decide (a > b)))
  | .geq => ifSame k k' (.bool (decide (a ≥ b)))
  | .shl => match b with
    | .ofNat s => some (.int k (k.wrap (a * 2 ^ shAmt k s)))
    | .negSucc _ => none
  | .shr => match b with
    | .ofNat s => some (.int k (a.fdiv (2 ^ shAmt k s)))
    | .negSucc _ => none
  | .quo => match b with
    | .ofNat 0 => none
    | _ => ifSame k k' (.int k (k.wrap (a.tdiv b)))
  | .rem => match b with
    | .ofNat 0 => none
    | _ => ifSame k k' (.int k (a.tmod b))
def strBin (op : BinOp) (a b : ByteArray) : Option Value :=
  match op with
  | .eql => some (.bool (a.toList == b.toList))
  | .neq => some (.bool !(a.toList == b.toList))
  | .lss => some (.bool (Op.bytesLess a.toList b.toList))
  | .gtr => some (.bool !(Op.bytesLess a.toList b.toList || a.toList == b.toList))
  | _ => none
def fltBin (op : BinOp) (a b : Nat) : Option Value :=
  match op with
  | .eql => some (.bool (FloatKind.f64.format.order a b == some .eq))
  | .neq => some (.bool (FloatKind.f64.format.order a b != some .eq))
  | .lss => some (.bool (FloatKind.f64.format.order a b == some .lt))
  | .leq => some (.bool (FloatKind.f64.format.order a b == some .lt || FloatKind.f64.format.order a b == some .eq))
  | .gtr => some (.bool (FloatKind.f64.format.order a b == some .gt))
  | .geq => some (.bool (FloatKind.f64.format.order a b == some .gt || FloatKind.f64.format.order a b == some .eq))
  | _ => none
def vBin (op : BinOp) (x y : Value) : Option Value :=
  match x, y with
  | .int k a, .int k' b => intBin op k k' a b
  | .float .f64 a, .float .f64 b => fltBin op a b
  | .string a, .string b => strBin op a b
  | _, _ => none
theorem vBin_sound {P : Program} {op : BinOp} {t : TypeId} {x y v : Value} (h : vBin op x y = some v) (w : World) : (binOp op t x y).run P w = .ok v w := by
  unfold vBin at h
  split at h
  · rename_i k a k' b
    cases op <;> simp only [intBin] at h
    case shl =>
      split at h
      · injection h with h; subst h; simp [binOp, Op.shift, shAmt]; omega
      · cases h
    case shr =>
      split at h
      · injection h with h; subst h; simp [binOp, Op.shift, shAmt]; omega
      · cases h
    case quo =>
      split at h
      · cases h
      · rename_i hb
        obtain ⟨rfl, rfl⟩ := ifSame_some h
        simp [binOp, Op.intDiv, show ¬ b = 0 from fun hh => hb hh]
    case rem =>
      split at h
      · cases h
      · rename_i hb
        obtain ⟨rfl, rfl⟩ := ifSame_some h
        simp [binOp, Op.intDiv, show ¬ b = 0 from fun hh => hb hh]
    all_goals
      obtain ⟨rfl, rfl⟩ := ifSame_some h
      simp [binOp, Op.intArith, Op.intCmp, Op.intBits, bits]
  · rename_i a b
    cases op <;> simp only [fltBin] at h <;> first
      | (injection h with h; subst h; simp [binOp, Op.floatCmp])
      | cases h
  · rename_i a b
    cases op <;> simp only [strBin] at h <;> first
      | (injection h with h; subst h; simp [binOp, Op.stringOp])
      | cases h
  · cases h
def eqV (T : Ty) (t : TypeId) (a b : Value) : Option Bool :=
  match a, b with
  | .bool p, .bool q => match T.row t with
    | some r => match r.k with
      | .bool => some (p == q)
      | _ => none
    | none => none
  | .slice A _ _, .slice none 0 0 => match T.row t with
    | some r => match r.k with
      | .sli _ => some A.isNone
      | _ => none
    | none => none
  | .pointer A, .pointer none => match T.row t with
    | some r => match r.k with
      | .ptr _ => some A.isNone
      | _ => none
    | none => none
  | _, _ => none
theorem eqV_sound {P : Program} {T : Ty} (hT : T.Ok P) {t : TypeId} {a b : Value} {q : Bool} (h : eqV T t a b = some q) (d : Nat) (w : World) : (Op.equalIn (d + 1) t a b).run P w = .ok q w := by
  unfold eqV at h
  split at h
  · rename_i p q'
    split at h
    · rename_i r hr
      split at h
      · rename_i hk
        have h1 := (hT.row hr).k; rw [hk] at h1
        injection h with h; subst h
        simp [Op.equalIn, run_underlying h1]
      · cases h
    · cases h
  · rename_i A l c
    split at h
    · rename_i r hr
      split at h
      · rename_i te hk
        have h1 := (hT.row hr).k; rw [hk] at h1
        injection h with h; subst h
        cases A <;> simp [Op.equalIn, run_underlying h1]
      · cases h
    · cases h
  · rename_i A
    split at h
    · rename_i r hr
      split at h
      · rename_i te hk
        have h1 := (hT.row hr).k; rw [hk] at h1
        injection h with h; subst h
        cases A <;> simp [Op.equalIn, run_underlying h1]
      · cases h
    · cases h
  · cases h
theorem eqV_eql {P : Program} {T : Ty} (hT : T.Ok P) {t : TypeId} {a b : Value} {q : Bool} (h : eqV T t a b = some q) (w : World) : (binOp .eql t a b).run P w = .ok (.bool q) w := by
  have h0 : (Op.equal t a b).run P w = .ok q w := eqV_sound hT h 9999 w
  unfold eqV at h
  split at h
  · simp only [binOp]; simp [h0]
  · simp only [binOp]; simp [h0]
  · simp only [binOp]; simp [h0]
  · cases h
theorem eqV_neq {P : Program} {T : Ty} (hT : T.Ok P) {t : TypeId} {a b : Value} {q : Bool} (h : eqV T t a b = some q) (w : World) : (binOp .neq t a b).run P w = .ok (.bool !q) w := by
  have h0 : (Op.equal t a b).run P w = .ok q w := eqV_sound hT h 9999 w
  unfold eqV at h
  split at h
  · simp only [binOp]; simp [h0]
  · simp only [binOp]; simp [h0]
  · simp only [binOp]; simp [h0]
  · cases h
theorem eqV_guard {P : Program} {T : Ty} {op : BinOp} {t : TypeId} {x y : Operand} {a b : Value} {q : Bool} (h : eqV T t a b = some q) (w : World) : (eqGuard op t x y a b).run P w = .ok () w := by
  unfold eqV at h
  split at h
  · simp [eqGuard]
  · simp [eqGuard]
  · simp [eqGuard]
  · cases h
def cellsL : Value → Option (List Value)
  | .agg ⟨l⟩ => some l
  | .tuple _ => none
  | v => some [v]
def setSeg : List Value → Nat → List Value → Option (List Value)
  | l, 0, [] => some l
  | _ :: l, 0, v :: vs => match setSeg l 0 vs with
    | some r => some (v :: r)
    | none => none
  | c :: l, k + 1, vs => match setSeg l k vs with
    | some r => some (c :: r)
    | none => none
  | _, _, _ => none
def buildL (fs : List (TypeId × Nat × Nat)) (e : Env) : List (Nat × Operand) → List Value → Option (List Value)
  | [], l => some l
  | (i, x) :: rest, l => match e.ev x with
    | some v => match fs[i]? with
      | some (_, off, size) => match cellsL v with
        | some vs => match Nat.beq vs.length size with
          | true => match setSeg l off vs with
            | some l' => buildL fs e rest l'
            | none => none
          | false => none
        | none => none
      | none => none
    | none => none
def allPos : List (TypeId × Nat × Nat) → Bool
  | [] => true
  | (_, _, k) :: r => match k with
    | 0 => false
    | _ + 1 => allPos r
theorem cellsL_eq {v : Value} {l : List Value} (h : cellsL v = some l) : v.cells = l.toArray := by
  unfold cellsL at h
  split at h
  · injection h with h; subst h; rfl
  · cases h
  · rename_i h1 h2
    injection h with h; subst h
    cases v <;> first
      | rfl
      | (rename_i cs; exact absurd rfl (h1 cs.toList))
theorem setSeg_eq : ∀ (l : List Value) (k : Nat) (vs r : List Value), setSeg l k vs = some r → k + vs.length ≤ l.length ∧ r = l.take k ++ vs ++ l.drop (k + vs.length)
  | l, 0, [], r, h => by simp [setSeg] at h; subst h; simp
  | [], 0, v :: vs, r, h => by simp [setSeg] at h
  | c :: l, 0, v :: vs, r, h => by
    unfold setSeg at h
    split at h
    · rename_i r' hr
      injection h with h; subst h
      obtain ⟨h1, h2⟩ := setSeg_eq l 0 vs r' hr
      subst h2
      refine ⟨by simp at h1 ⊢; omega, ?_⟩
      simp
    · cases h
  | [], k + 1, vs, r, h => by simp [setSeg] at h
  | c :: l, k + 1, vs, r, h => by
    unfold setSeg at h
    split at h
    · rename_i r' hr
      injection h with h; subst h
      obtain ⟨h1, h2⟩ := setSeg_eq l k vs r' hr
      subst h2
      refine ⟨by simp; omega, ?_⟩
      simp [Nat.add_right_comm]
    · cases h
theorem foldSet (base : Nat) : ∀ (l : List Value) (j : Nat) (pre suf : List Value), l.length ≤ suf.length → pre.length = base + j →
    (l.zipIdx j).foldl (fun (cs : Array Value) (c : Value × Nat) => cs.setIfInBounds (base + c.2) c.1) (pre ++ suf).toArray = (pre ++ l ++ suf.drop l.length).toArray
  | [], j, pre, suf, _, _ => by simp
  | c :: l, j, pre, [], h, _ => by simp at h
  | c :: l, j, pre, s0 :: suf, h, hp => by
    simp only [List.zipIdx_cons, List.foldl_cons]
    have h1 : ((pre ++ s0 :: suf).toArray.setIfInBounds (base + j) c) = ((pre ++ [c]) ++ suf).toArray := by
      rw [List.setIfInBounds_toArray]; congr 1; rw [← hp]; simp
    rw [h1, foldSet base l (j + 1) (pre ++ [c]) suf (by simpa using h) (by simp [hp, Nat.add_assoc])]
    simp
theorem buildL_fill {fs : List (TypeId × Nat × Nat)} {n : Nat} {e : Env} {D : Fr} {a : Act} (hf : Fits n e D a) : ∀ (ps : List (Nat × Operand)) (l r : List Value), buildL fs e ps l = some r →
    Instr.fill ((fs.map fun q => (q.2.1, q.2.2)).toArray[·]?) l.toArray (ps.map fun p => (p.1, a.eval p.2)) = some r.toArray
  | [], l, r, h => by simp only [buildL, Option.some.injEq] at h; subst h; simp [Instr.fill]
  | (i, x) :: ps, l, r, h => by
    unfold buildL at h
    split at h
    · rename_i v hv
      split at h
      · rename_i ft off size hq
        split at h
        · rename_i vs hvs
          split at h
          · rename_i hsz
            split at h
            · rename_i l' hl'
              have ih := buildL_fill hf ps l' r h
              obtain ⟨h1, h2⟩ := setSeg_eq l off vs l' hl'
              have hc := cellsL_eq hvs
              have hs : vs.length = size := by simpa using hsz
              have hpl : (fs.map fun q => (q.2.1, q.2.2)).toArray[i]? = some (off, size) := by simp [hq]
              simp only [List.map_cons, Instr.fill, hpl, hf.ev hv]
              rw [if_neg (by simp [hc, hs]; omega)]
              rw [← ih]
              congr 1
              rw [hc]
              have h3 : ∀ z : Array Value, (vs.toArray.zipIdx.foldl (fun cs x => cs.setIfInBounds (off + x.2) x.1) z) = (vs.zipIdx 0).foldl (fun (cs : Array Value) (c : Value × Nat) => cs.setIfInBounds (off + c.2) c.1) z := by
                intro z
                rw [← Array.foldl_toList]
                simp
              rw [h3]
              have h4 := foldSet off vs 0 (l.take off) (l.drop off) (by simp; omega) (by simp; omega)
              rw [List.take_append_drop] at h4
              rw [h4, h2]
              simp [List.drop_drop]
            · cases h
          · cases h
        · cases h
      · cases h
    · cases h
theorem places_some {P : Program} : ∀ (F : List Field), allPos (F.map fun f => (f.type, f.offset, P.cellsOf f.type)) = true →
    F.mapM (fun f => (P.info? f.type).map fun i => (f.offset, i.size)) = some ((F.map fun f => (f.type, f.offset, P.cellsOf f.type)).map fun q => (q.2.1, q.2.2))
  | [], _ => by simp
  | f :: F, h => by
    simp only [List.map_cons, allPos] at h
    split at h
    · cases h
    · rename_i k hk
      have ih := places_some F h
      cases hi : P.info? f.type with
      | none => simp [Program.cellsOf, hi] at hk
      | some i => simp [hi, ih, Program.cellsOf]
def addN : Addr → Nat → Addr
  | ⟨b, o, none⟩, k => ⟨b, o + k, none⟩
  | a, k => a.add k
theorem addN_eq (a : Addr) (k : Nat) : addN a k = a.add k := by
  obtain ⟨b, o, s⟩ := a
  cases s <;> simp [addN, Addr.add]
def nrmA : Ty → Addr → Nat → Addr
  | .norm _, a, k => addN a k
  | _, a, k => a.add k
theorem nrmA_eq (T : Ty) (a : Addr) (k : Nat) : nrmA T a k = a.add k := by
  cases T <;> simp [nrmA, addN_eq]
def pv (T : Ty) (e : Env) : Op → Option Value
  | .move x => e.ev x
  | .assign x => e.ev x
  | .pick c a b => match e.ev c with
    | some (.bool true) => e.ev a
    | some (.bool false) => e.ev b
    | _ => none
  | .nilCheck x => match e.ev x with
    | some (.pointer (some p)) => some (.pointer (some p))
    | some (.func (.func f) fi ca) => some (.func (.func f) fi ca)
    | _ => none
  | .binOp .eql t x (.const .nilIface) _ => match e.ev x with
    | some v => match T.row t with
      | some r => match r.k with
        | .iface => match v with
          | .nilIface => some (.bool true)
          | .iface _ _ => some (.bool false)
          | _ => none
        | _ => none
      | none => none
    | none => none
  | .binOp op t x y _ => match e.ev x with
    | some a => match e.ev y with
      | some b => match vBin op a b with
        | some v => some v
        | none => match op with
          | .eql => match eqV T t a b with
            | some q => some (.bool q)
            | none => none
          | .neq => match eqV T t a b with
            | some q => some (.bool !q)
            | none => none
          | _ => none
      | none => none
    | none => none
  | .unOp op _ x => match op, e.ev x with
    | .not, some (.bool b) => some (.bool !b)
    | .neg, some (.int k a) => some (.int k (k.wrap (0 - a)))
    | .xor, some (.int k a) => some (.int k (bits .xor k (if k.signed then -1 else k.max) a))
    | _, _ => none
  | .convert s d x => match e.ev x with
    | some (.int _ a) => match T.row s with
      | some rs => match rs.k.known with
        | true => match T.row d with
          | some r => match r.k with
            | .int k => some (.int k (k.wrap a))
            | _ => none
          | none => none
        | false => none
      | none => none
    | _ => none
  | .fieldAddr s x f => match e.ev x with
    | some (.pointer (some p)) => match T.row s with
      | some r => match r.k with
        | .stru fs => match fs[f]? with
          | some (ft, off, _) => match T.row ft with
            | some qr => match qr.size with
              | 0 => none
              | _ + 1 => some (.pointer (some (nrmA T p off)))
            | none => none
          | none => none
        | _ => none
      | none => none
    | _ => none
  | .makeFunc (.func f) first captured => match e.evs first.toList with
    | some a => match e.evs captured.toList with
      | some b => some (.func (.func f) a.toArray b.toArray)
      | none => none
    | none => none
  | .makeInterface t x => match e.ev x with
    | some v => match T.row t with
      | some r => match r.k with
        | .iface => none
        | .other => none
        | _ => some (.iface t v)
      | none => none
    | none => none
  | .extract x i => match e.ev x with
    | some (.tuple ⟨vs⟩) => vs[i]?
    | _ => none
  | .build t ⟨parts⟩ => match T.row t with
    | some r => match r.k with
      | .stru fs => match r.zero with
        | .agg ⟨z⟩ => match allPos fs with
          | true => match buildL fs e parts z with
            | some l => some (.agg ⟨l⟩)
            | none => none
          | false => none
        | _ => none
      | _ => none
    | none => none
  | .typeAssert x _ t true => match T.row t with
    | some r => match r.k with
      | .iface => none
      | .other => none
      | _ => match e.ev x with
        | some .nilIface => some (.tuple #[r.zero, .bool false])
        | some (.iface u v) => match Nat.beq u t with
          | true => some (.tuple #[v, .bool true])
          | false => some (.tuple #[r.zero, .bool false])
        | _ => none
    | none => none
  | .call ⟨.builtin .len, ⟨[x]⟩, ⟨[t]⟩⟩ => match e.ev x with
    | some (.slice _ len _) => match T.row t with
      | some r => match r.k with
        | .sli _ => some (.int .i64 len)
        | _ => none
      | none => none
    | some (.string s) => match T.row t with
      | some r => match r.k with
        | .str => some (.int .i64 s.size)
        | _ => none
      | none => none
    | _ => none
  | .call ⟨.builtin .cap, ⟨[x]⟩, ⟨[t]⟩⟩ => match e.ev x with
    | some (.slice _ _ c) => match T.row t with
      | some r => match r.k with
        | .sli _ => some (.int .i64 c)
        | _ => none
      | none => none
    | _ => none
  | .call ⟨.builtin .min, ⟨[x, y]⟩, _⟩ => match e.ev x with
    | some (.int k a) => match e.ev y with
      | some (.int _ b) => some (.int k (if b < a then b else a))
      | _ => none
    | _ => none
  | .call ⟨.builtin .max, ⟨[x, y]⟩, _⟩ => match e.ev x with
    | some (.int k a) => match e.ev y with
      | some (.int _ b) => some (.int k (if b > a then b else a))
      | _ => none
    | _ => none
  | _ => none
theorem equalIn_nilI_nil {P : Program} {t : TypeId} {ms : Array (String × TypeId)} (h : P.underlying t = some (.interface ms)) (d : Nat) (w : World) : (Op.equalIn (d + 1) t .nilIface .nilIface).run P w = .ok true w := by
  simp [Op.equalIn, run_underlying h]
theorem equalIn_held_nil {P : Program} {t u : TypeId} {x : Value} {ms : Array (String × TypeId)} (h : P.underlying t = some (.interface ms)) (d : Nat) (w : World) : (Op.equalIn (d + 1) t (.iface u x) .nilIface).run P w = .ok false w := by
  simp [Op.equalIn, run_underlying h]
theorem eql_nilI_nil {P : Program} {t : TypeId} {ms : Array (String × TypeId)} (h : P.underlying t = some (.interface ms)) (w : World) : (binOp .eql t .nilIface .nilIface).run P w = .ok (.bool true) w := by
  have h0 : (Op.equal t .nilIface .nilIface).run P w = .ok true w := equalIn_nilI_nil h 9999 w
  simp only [binOp]; simp [h0]
theorem eql_held_nil {P : Program} {t u : TypeId} {x : Value} {ms : Array (String × TypeId)} (h : P.underlying t = some (.interface ms)) (w : World) : (binOp .eql t (.iface u x) .nilIface).run P w = .ok (.bool false) w := by
  have h0 : (Op.equal t (.iface u x) .nilIface).run P w = .ok false w := equalIn_held_nil h 9999 w
  simp only [binOp]; simp [h0]
theorem pv_sound {P : Program} {T : Ty} (hT : T.Ok P) {n : Nat} {e : Env} {D : Fr} {a : Act} (hf : Fits n e D a) {o : Oper} {v : Value} (h : pv T e o.op = some v) (w : World) :
    (execOp a.eval o).run P w = .ok (.value v) w := by
  unfold execOp
  unfold pv at h
  split at h
  case h_1 x ho => rw [ho]; show Sem.run P (pure (Next.value (a.eval x))) w = _; rw [hf.ev h]; rfl
  case h_2 x ho => rw [ho]; show Sem.run P (pure (Next.value (a.eval x))) w = _; rw [hf.ev h]; rfl
  case h_3 c x y ho =>
    rw [ho]
    split at h
    · rename_i hc; simp [hf.ev hc, asBool, hf.ev h]
    · rename_i hc; simp [hf.ev hc, asBool, hf.ev h]
    · cases h
  case h_4 x ho =>
    rw [ho]
    split at h
    · rename_i p hp; injection h with h; subst h; simp [hf.ev hp]
    · rename_i f fi ca hp; injection h with h; subst h; simp [hf.ev hp]
    · cases h
  case h_5 t x yt ho =>
    rw [ho]
    split at h
    · rename_i p hp
      split at h
      · rename_i r hr
        split at h
        · rename_i hk
          have h1 := (hT.row hr).k
          rw [hk] at h1
          obtain ⟨ms, hms⟩ := h1
          split at h
          · injection h with h; subst h
            simp [hf.ev hp, show a.eval (.const .nilIface) = .nilIface from rfl, eqGuard, eql_nilI_nil hms]
          · injection h with h; subst h
            simp [hf.ev hp, show a.eval (.const .nilIface) = .nilIface from rfl, eqGuard, eql_held_nil hms]
          · cases h
        · cases h
      · cases h
    · cases h
  case h_6 op t x y yt hne ho =>
    rw [ho]
    split at h
    · rename_i p hp
      split at h
      · rename_i q hq
        simp only [hf.ev hp, hf.ev hq]
        split at h
        · rename_i v' hv
          injection h with h; subst h
          have h1 := vBin_sound (P := P) (t := t) hv w
          have h2 : (eqGuard op t x y p q).run P w = .ok () w := by
            unfold vBin at hv
            split at hv
            · simp [eqGuard]
            · simp [eqGuard]
            · simp [eqGuard]
            · cases hv
          simp [h1, h2]
        · split at h
          · split at h
            · rename_i q' hq'
              injection h with h; subst h
              simp [eqV_eql hT hq', eqV_guard hq']
            · cases h
          · split at h
            · rename_i q' hq'
              injection h with h; subst h
              simp [eqV_neq hT hq', eqV_guard hq']
            · cases h
          · cases h
      · cases h
    · cases h
  case h_7 op t x ho =>
    rw [ho]
    split at h
    · rename_i b hb; injection h with h; subst h; simp [hf.ev hb, Op.unary]
    · rename_i k a' hb; injection h with h; subst h; simp [hf.ev hb, Op.unary, Op.intArith]
    · rename_i k a' hb; injection h with h; subst h; simp [hf.ev hb, Op.unary, Op.intBits, bits]
    · cases h
  case h_8 s d x ho =>
    rw [ho]
    split at h
    · rename_i k0 a' hx
      split at h
      · rename_i rs hrs
        split at h
        · rename_i hkn
          split at h
          · rename_i r hr
            split at h
            · rename_i k hk
              injection h with h; subst h
              have h1 := (hT.row hr).k
              rw [hk] at h1
              have h2 : ∃ d', P.underlying s = some d' := by
                have h3 := (hT.row hrs).k
                cases hrk : rs.k <;> rw [hrk] at h3 <;> simp only [KOk] at h3
                case stru fs => obtain ⟨F, hF, _⟩ := h3; exact ⟨_, hF⟩
                case iface => obtain ⟨F, hF⟩ := h3; exact ⟨_, hF⟩
                case func => obtain ⟨_, _, _, hF⟩ := h3; exact ⟨_, hF⟩
                case other => rw [hrk] at hkn; cases hkn
                all_goals exact ⟨_, h3⟩
              obtain ⟨d', hd'⟩ := h2
              simp [convert, hf.ev hx, run_underlying h1, run_underlying hd', Conv.intToInt]
            · cases h
          · cases h
        · cases h
      · cases h
    · cases h
  case h_9 s x f ho =>
    rw [ho]
    split at h
    · rename_i p hp
      split at h
      · rename_i r hr
        split at h
        · rename_i fs hk
          split at h
          · rename_i q1 q2 q3 hq
            split at h
            · rename_i qr hqr
              split at h
              · cases h
              · rename_i sz hsz
                injection h with h; subst h
                have h1 := (hT.row hr).k
                rw [hk] at h1
                obtain ⟨F, hF, hmap⟩ := h1
                have hq' : (F.toList.map fun f => (f.type, f.offset, P.cellsOf f.type))[f]? = some (q1, q2, q3) := by rw [hmap]; exact hq
                rw [List.getElem?_map] at hq'
                obtain ⟨fl, hfl, hfq⟩ := Option.map_eq_some_iff.1 hq'
                have hfl' : F[f]? = some fl := by simpa using hfl
                simp only [Prod.mk.injEq] at hfq
                obtain ⟨rfl, rfl, rfl⟩ := hfq
                have hs := (hT.row hqr).run_size w
                rw [hsz] at hs
                simp [Instr.fieldAt, hf.ev hp, run_underlying hF, hfl', Instr.sureAddr, fieldPlace, hs, nrmA_eq]
            · cases h
          · cases h
        · cases h
      · cases h
    · cases h
  case h_10 f first captured ho =>
    rw [ho]
    split at h
    · rename_i x hx
      split at h
      · rename_i y hy
        injection h with h; subst h
        have h1 : first.map a.eval = x.toArray := Array.ext' (by rw [Array.toList_map]; exact hf.evs hx)
        have h2 : captured.map a.eval = y.toArray := Array.ext' (by rw [Array.toList_map]; exact hf.evs hy)
        simp [Instr.makeFunc, h1, h2]
      · cases h
    · cases h
  case h_11 t x ho =>
    rw [ho]
    split at h
    · rename_i u hu
      split at h
      · rename_i r hr
        have h1 := (hT.row hr).k
        split at h
        · cases h
        · cases h
        · rename_i hn1 hn2
          injection h with h; subst h
          cases hrk : r.k <;> rw [hrk] at h1 <;> simp only [KOk] at h1
          case stru fs => obtain ⟨F, hF, _⟩ := h1; simp [Instr.makeInterface, hf.ev hu, run_underlying hF]
          case iface => exact absurd hrk hn1
          case func => obtain ⟨_, _, _, hF⟩ := h1; simp [Instr.makeInterface, hf.ev hu, run_underlying hF]
          case other => exact absurd hrk hn2
          all_goals simp [Instr.makeInterface, hf.ev hu, run_underlying h1]
      · cases h
    · cases h
  case h_12 x i ho =>
    rw [ho]
    split at h
    · rename_i vs hx
      have hx' := hf.ev hx
      have h' : (Array.mk vs)[i]? = some v := by simpa using h
      simp [Instr.extract, hx', h']
    · cases h
  case h_13 t parts ho =>
    rw [ho]
    split at h
    · rename_i r hr
      split at h
      · rename_i fs hk
        split at h
        · rename_i z hz
          split at h
          · rename_i hpos
            split at h
            · rename_i l hl
              injection h with h; subst h
              obtain ⟨i, hi, hzero, _, _⟩ := (hT.row hr).parts
              have h1 := (hT.row hr).k; rw [hk] at h1
              obtain ⟨F, hF, hmap⟩ := h1
              have hb : P.built t (parts.map fun p => (p.1, a.eval p.2)) = some l.toArray := by
                unfold Program.built
                simp only [hi, hF, hzero, hz]
                have h2 := places_some (P := P) F.toList (by rw [hmap]; exact hpos)
                rw [hmap] at h2
                rw [h2]
                exact buildL_fill hf parts z l hl
              have h3 := run_build (P := P) w t ((Array.mk parts).map fun p => (p.1, a.eval p.2)) l.toArray (by simpa using hb)
              show Sem.run P (do pure (Next.value (← Instr.build t ((Array.mk parts).map fun p => (p.1, a.eval p.2))))) w = _
              simp only [Sem.run_bind, h3, Result.andThen_ok, Sem.run_pure]
            · cases h
          · cases h
        · cases h
      · cases h
    · cases h
  case h_14 x xt t ho =>
    rw [ho]
    split at h
    · rename_i r hr
      have h1 := (hT.row hr).k
      split at h
      · cases h
      · cases h
      · rename_i hn1 hn2
        have h2 : ∃ d', P.underlying t = some d' ∧ (∀ ms, d' ≠ .interface ms) := by
          cases hrk : r.k <;> rw [hrk] at h1 <;> simp only [KOk] at h1
          case stru fs => obtain ⟨F, hF, _⟩ := h1; exact ⟨_, hF, by simp⟩
          case iface => exact absurd hrk hn1
          case func => obtain ⟨_, _, _, hF⟩ := h1; exact ⟨_, hF, by simp⟩
          case other => exact absurd hrk hn2
          all_goals exact ⟨_, h1, by simp⟩
        obtain ⟨d', hd', hni⟩ := h2
        split at h
        · rename_i hx
          injection h with h; subst h
          simp [Instr.typeAssert, hf.ev hx, run_underlying hd', (hT.row hr).run_zero]
          first
            | done
            | (cases d' <;> simp at hni ⊢)
        · rename_i u v' hx
          split at h
          · rename_i hut
            have hut : u = t := by simpa using hut
            subst hut
            injection h with h; subst h
            simp [Instr.typeAssert, hf.ev hx, run_underlying hd']
            first
              | done
              | (cases d' <;> simp at hni ⊢)
          · rename_i hut
            have hut : u ≠ t := Nat.ne_of_beq_eq_false hut
            injection h with h; subst h
            simp [Instr.typeAssert, hf.ev hx, run_underlying hd', (hT.row hr).run_zero]
            first
              | done
              | (cases d' <;> simp [hut] at hni ⊢)
        · cases h
    · cases h
  case h_15 x t ho =>
    rw [ho]
    split at h
    · rename_i q len c hx
      split at h
      · rename_i r hr
        split at h
        · rename_i el hk
          have h1 := (hT.row hr).k
          rw [hk] at h1
          injection h with h; subst h
          simp [resolve, invoke, builtin, Builtin.len_, hf.ev hx, run_underlying h1, goInt]
        · cases h
      · cases h
    · rename_i s hx
      split at h
      · rename_i r hr
        split at h
        · rename_i hk
          have h1 := (hT.row hr).k
          rw [hk] at h1
          injection h with h; subst h
          simp [resolve, invoke, builtin, Builtin.len_, hf.ev hx, run_underlying h1, goInt]
        · cases h
      · cases h
    · cases h
  case h_16 x t ho =>
    rw [ho]
    split at h
    · rename_i q len c hx
      split at h
      · rename_i r hr
        split at h
        · rename_i el hk
          have h1 := (hT.row hr).k
          rw [hk] at h1
          injection h with h; subst h
          simp [resolve, invoke, builtin, Builtin.cap_, hf.ev hx, run_underlying h1, goInt]
        · cases h
      · cases h
    · cases h
  case h_17 x y t ho =>
    rw [ho]
    split at h
    · rename_i k a' hx
      split at h
      · rename_i k' b' hy
        injection h with h; subst h
        simp [resolve, invoke, builtin, Builtin.min_, Builtin.min2, hf.ev hx, hf.ev hy]
      · cases h
    · cases h
  case h_18 x y t ho =>
    rw [ho]
    split at h
    · rename_i k a' hx
      split at h
      · rename_i k' b' hy
        injection h with h; subst h
        simp [resolve, invoke, builtin, Builtin.max_, Builtin.max2, hf.ev hx, hf.ev hy]
      · cases h
    · cases h
  case h_19 => cases h
def runP (T : Ty) (ops : Array Oper) (n : Nat) : Nat → Env → List Oper → Option (Env × List Oper)
  | 0, e, l => some (e, l)
  | k + 1, e, l => match l with
    | [] => none
    | o :: rest => match gd ops e o with
      | some true => match pv T e o.op with
        | some v => match putE n o.dst v e with
          | some e' => runP T ops n k e' rest
          | none => none
        | none => none
      | some false => match putE n o.dst undef e with
        | some e' => runP T ops n k e' rest
        | none => none
      | none => none
theorem runP_sound {P : Program} {T : Ty} (hT : T.Ok P) {ops : Array Oper} {Q : Exit → Act → World → Prop} {n : Nat} {D : Fr} {m : World} :
    ∀ (k : Nat) (e : Env) (l : List Oper) (e' : Env) (l' : List Oper), runP T ops n k e l = some (e', l') → RL P ops Q l' n e' D m → RL P ops Q l n e D m
  | 0, e, l, e', l', h, hk => by
    simp only [runP, Option.some.injEq, Prod.mk.injEq] at h
    obtain ⟨rfl, rfl⟩ := h
    exact hk
  | k + 1, e, l, e', l', h, hk => by
    unfold runP at h
    split at h
    · cases h
    · rename_i o rest
      split at h
      · rename_i hg
        split at h
        · rename_i v hv
          split at h
          · rename_i e1 he1
            exact RL.value v hg (fun a w hf _ => pv_sound hT hf hv w) he1 (runP_sound hT k e1 rest e' l' h hk)
          · cases h
        · cases h
      · rename_i hg
        split at h
        · rename_i e1 he1
          exact RL.skip hg he1 (runP_sound hT k e1 rest e' l' h hk)
        · cases h
      · cases h
theorem RL.pure {P : Program} {T : Ty} (hT : T.Ok P) (k : Nat) {ops : Array Oper} {Q : Exit → Act → World → Prop} {n : Nat} {e e' : Env} {D : Fr} {m : World} {l l' : List Oper}
    (h : runP T ops n k e l = some (e', l')) (hk : RL P ops Q l' n e' D m) : RL P ops Q l n e D m := runP_sound hT k e l e' l' h hk
def runA (T : Ty) (ops : Array Oper) (n : Nat) : Nat → Env → List Oper → Env × List Oper
  | 0, e, l => (e, l)
  | k + 1, e, l => match l with
    | [] => (e, [])
    | o :: rest => match gd ops e o with
      | some true => match pv T e o.op with
        | some v => match putE n o.dst v e with
          | some e' => runA T ops n k e' rest
          | none => (e, o :: rest)
        | none => (e, o :: rest)
      | some false => match putE n o.dst undef e with
        | some e' => runA T ops n k e' rest
        | none => (e, o :: rest)
      | none => (e, o :: rest)
theorem runA_sound {P : Program} {T : Ty} (hT : T.Ok P) {ops : Array Oper} {Q : Exit → Act → World → Prop} {n : Nat} {D : Fr} {m : World} :
    ∀ (k : Nat) (e : Env) (l : List Oper) (e' : Env) (l' : List Oper), runA T ops n k e l = (e', l') → RL P ops Q l' n e' D m → RL P ops Q l n e D m
  | 0, e, l, e', l', h, hk => by
    simp only [runA, Prod.mk.injEq] at h
    obtain ⟨rfl, rfl⟩ := h
    exact hk
  | k + 1, e, l, e', l', h, hk => by
    unfold runA at h
    split at h
    · simp only [Prod.mk.injEq] at h; obtain ⟨rfl, rfl⟩ := h; exact hk
    · rename_i o rest
      split at h
      · rename_i hg
        split at h
        · rename_i v hv
          split at h
          · rename_i e1 he1
            exact RL.value v hg (fun a w hf _ => pv_sound hT hf hv w) he1 (runA_sound hT k e1 rest e' l' h hk)
          · simp only [Prod.mk.injEq] at h; obtain ⟨rfl, rfl⟩ := h; exact hk
        · simp only [Prod.mk.injEq] at h; obtain ⟨rfl, rfl⟩ := h; exact hk
      · rename_i hg
        split at h
        · rename_i e1 he1
          exact RL.skip hg he1 (runA_sound hT k e1 rest e' l' h hk)
        · simp only [Prod.mk.injEq] at h; obtain ⟨rfl, rfl⟩ := h; exact hk
      · simp only [Prod.mk.injEq] at h; obtain ⟨rfl, rfl⟩ := h; exact hk
theorem RL.A1 {P : Program} {T : Ty} (hT : T.Ok P) {ops : Array Oper} {Q : Exit → Act → World → Prop} {n : Nat} {e e' : Env} {D : Fr} {m : World} {l l' : List Oper}
    (h : runA T ops n 60 e l = (e', l')) (hk : RL P ops Q l' n e' D m) : RL P ops Q l n e D m := runA_sound hT 60 e l e' l' h hk
end Go.Ev
end
section
namespace Go.Ev
open Go.RowKit
def dle (a b : Nat) : Prop := a ≤ b ∧ (a = 0 → b = 0)
theorem dle.refl (a : Nat) : dle a a := ⟨Nat.le_refl _, fun h => h⟩
theorem dle.trans {a b c : Nat} (h : dle a b) (k : dle b c) : dle a c := ⟨Nat.le_trans h.1 k.1, fun hh => k.2 (h.2 hh)⟩
def low (m w : World) : World := { w with drawn := if m.drawn = 0 then 0 else w.drawn }
theorem low_heap (m w : World) : (low m w).heap = w.heap := rfl
theorem Sim.low (m w : World) : Sim (low m w) w := ⟨rfl, rfl, rfl, rfl, by show (if _ then _ else _) ≤ _; split <;> omega⟩
theorem dle.low {m w : World} (h : m.drawn ≤ w.drawn) : dle m.drawn (low m w).drawn := by
  show dle m.drawn (if _ then _ else _)
  split
  · rename_i h0; rw [h0]; exact dle.refl 0
  · rename_i h0; exact ⟨h, fun hh => absurd hh h0⟩
structure Chg (m : World) (b : Nat) (o : Obj) (m' : World) : Prop where
  os : m'.os = m.os
  tape : m'.tape = m.tape
  output : m'.output = m.output
  here : m'.heap[b]? = some o
  far : ∀ k, k ≠ b → m'.heap[k]? = m.heap[k]?
  size : m'.heap.size = max m.heap.size (b + 1)
  drawn : dle m.drawn m'.drawn
structure Ext (m : World) (M : List Nat) (m' : World) : Prop where
  os : m'.os = m.os
  tape : m'.tape = m.tape
  output : m'.output = m.output
  size : m.heap.size ≤ m'.heap.size
  far : ∀ k, k < m.heap.size → k ∉ M → m'.heap[k]? = m.heap[k]?
  drawn : dle m.drawn m'.drawn
def Blk (m : World) (b : Nat) (t : TypeId) (cs : List Value) : Prop := m.heap[b]? = some (.cells cs.toArray t (0, 0))
section
variable {m m' m'' w : World} {M M' : List Nat} {b : Nat} {o : Obj} {t : TypeId} {cs : List Value}
theorem Ext.refl (m : World) (M : List Nat) : Ext m M m := ⟨rfl, rfl, rfl, Nat.le_refl _, fun _ _ _ => rfl, dle.refl _⟩
theorem Ext.mono (h : Ext m M m') (hM : ∀ k ∈ M, k < m.heap.size → k ∈ M') : Ext m M' m' := ⟨h.os, h.tape, h.output, h.size, fun k hk hn => h.far k hk fun hm => hn (hM k hm hk), h.drawn⟩
theorem Ext.trans (h : Ext m M m') (h' : Ext m' M' m'') (hM : ∀ k ∈ M', k ∈ M ∨ m.heap.size ≤ k) : Ext m M m'' :=
  ⟨h'.os.trans h.os, h'.tape.trans h.tape, h'.output.trans h.output, Nat.le_trans h.size h'.size, fun k hk hn =>
    (h'.far k (Nat.lt_of_lt_of_le hk h.size) fun hm => by rcases hM k hm with h1 | h1; exact hn h1; omega).trans (h.far k hk hn), h.drawn.trans h'.drawn⟩
theorem Ext.cell (h : Ext m M m') {a : Addr} {v : Value} (hn : a.block ∉ M) (hc : m.cell? a = some v) : m'.cell? a = some v :=
  (World.cell?_of_block (h.far a.block (World.block_lt_of_cell? m a hc) hn)).trans hc
theorem Chg.ext (h : Chg m b o m') : Ext m [b] m' := ⟨h.os, h.tape, h.output, by rw [h.size]; omega, fun k _ hn => h.far k (by simpa using hn), h.drawn⟩
theorem Chg.new (h : Chg m b o m') (hb : m.heap.size ≤ b) : Ext m [] m' := ⟨h.os, h.tape, h.output, by rw [h.size]; omega, fun k hk _ => h.far k (by omega), h.drawn⟩
theorem Blk.lt (h : Blk m b t cs) : b < m.heap.size := (Array.getElem?_eq_some_iff.1 h).1
theorem Blk.cell (h : Blk m b t cs) (i : Nat) {v : Value} (hv : cs[i]? = some v) : m.cell? ⟨b, i, none⟩ = some v := by
  unfold Blk at h
  simp [World.cell?, h, hv]
theorem Blk.ext (h : Blk m b t cs) (hE : Ext m M m') (hn : b ∉ M) : Blk m' b t cs := (hE.far b h.lt hn).trans h
theorem Blk.far (h : Blk m b t cs) {b' : Nat} (hC : Chg m b' o m') (hn : b ≠ b') : Blk m' b t cs := (hC.far b hn).trans h
theorem Chg.blk (h : Chg m b (.cells cs.toArray t (0, 0)) m') : Blk m' b t cs := h.here
theorem Chg.alloc (m : World) (o : Obj) : Chg m m.heap.size o (m.alloc o) :=
  ⟨rfl, rfl, rfl, heap_alloc_new m o, fun k hk => by
    rcases Nat.lt_or_ge k m.heap.size with h | h
    · exact Below.heap_alloc m o k h
    · show (m.heap.push o)[k]? = m.heap[k]?
      rw [Array.getElem?_eq_none (by simp; omega), Array.getElem?_eq_none h], by simp, dle.refl _⟩
theorem Sim.size (h : Sim m w) : w.heap.size = m.heap.size := by rw [h.heap]
theorem setRow_chg (h : m.heap[b]? = some (.cells cs.toArray t (0, 0))) (cs' : List Value) : Chg m b (.cells cs'.toArray t (0, 0)) (m.setRow b cs'.toArray) := by
  refine ⟨rfl, rfl, rfl, setRow_heap m b cs.toArray cs'.toArray t (0, 0) h, fun k hk => setRow_other m b k _ hk, ?_, dle.refl _⟩
  have := (Array.getElem?_eq_some_iff.1 h).1
  simp [World.setRow]; omega
theorem Sim.setRow {w : World} (h : Sim m w) (b : Nat) (c : Array Value) : Sim (m.setRow b c) (w.setRow b c) := ⟨by simp [World.setRow, h.heap], h.os, h.output, h.tape, h.drawn⟩
end
def Sl (m : World) (M : List Nat) (sz : Nat) (v : Value) (xs : List Value) : Prop :=
  ∃ (A : Option Addr) (n c : Nat), v = .slice A n c ∧ n ≤ c ∧ c ≤ maxLen ∧ xs.length = n * sz ∧ (A = none → c = 0) ∧
    (0 < n → ∃ ad, A = some ad ∧ ad.block ∉ M ∧ ∀ j u, xs[j]? = some u → m.cell? (ad.add j) = some u)
section
variable {m m' : World} {M M' : List Nat} {sz : Nat} {v : Value} {xs : List Value}
theorem Sl.nil (m : World) (M : List Nat) (sz : Nat) : Sl m M sz (.slice none 0 0) [] := ⟨none, 0, 0, rfl, Nat.le_refl _, Nat.zero_le _, by simp, fun _ => rfl, fun h => absurd h (by omega)⟩
theorem block_add (a : Addr) (n : Nat) : (a.add n).block = a.block := by unfold Addr.add; split <;> rfl
theorem add_add (a : Addr) (i j : Nat) : (a.add i).add j = a.add (i + j) := by
  unfold Addr.add
  by_cases hi : i = 0 <;> by_cases hj : j = 0 <;> simp [hi, hj, Nat.add_assoc]
theorem add_block (b o i : Nat) : (⟨b, o, none⟩ : Addr).add i = ⟨b, o + i, none⟩ := by unfold Addr.add; split <;> simp_all
theorem Sl.ext (h : Sl m M sz v xs) (hE : Ext m M m') (hM : ∀ k ∈ M', k ∈ M ∨ m.heap.size ≤ k) (hsz : 0 < sz) : Sl m' M' sz v xs := by
  obtain ⟨A, n, c, hv, hnc, hc, hl, hA, hr⟩ := h
  refine ⟨A, n, c, hv, hnc, hc, hl, hA, fun hn => ?_⟩
  obtain ⟨ad, had, hb, hcell⟩ := hr hn
  have h0 : 0 < xs.length := by rw [hl]; exact Nat.mul_pos hn hsz
  have hlt : ad.block < m.heap.size := by
    have := World.block_lt_of_cell? m _ (hcell 0 _ (List.getElem?_eq_getElem h0))
    rwa [block_add] at this
  refine ⟨ad, had, fun hk => by rcases hM _ hk with h1 | h1; exact hb h1; omega, fun j u hu => hE.cell (by rw [block_add]; exact hb) (hcell j u hu)⟩
theorem Sl.less (h : Sl m M sz v xs) (hM : ∀ k ∈ M', k ∈ M ∨ m.heap.size ≤ k) (hsz : 0 < sz) : Sl m M' sz v xs := h.ext (Ext.refl m M) hM hsz
theorem Sl.of_blk {b : Nat} {t : TypeId} {cs : List Value} {n c : Nat} (h : Blk m b t cs) (hb : b ∉ M) (hl : n * sz ≤ cs.length) (hnc : n ≤ c) (hc : c ≤ maxLen) : Sl m M sz (.slice (some ⟨b, 0, none⟩) n c) (cs.take (n * sz)) :=
  ⟨_, n, c, rfl, hnc, hc, by simp; omega, fun h => (by cases h), fun _ => ⟨_, rfl, hb, fun j u hu => by
    rw [add_block]
    rw [List.getElem?_take] at hu
    split at hu
    · exact h.cell _ (by simpa using hu)
    · cases hu⟩⟩
end
section
variable {P : Program} {T : Ty} {ops : Array Oper} {Q : Exit → Act → World → Prop} {l rest : List Oper} {n : Nat} {e e' : Env} {D : Fr} {m : World}
  {d : Option Tmp} {x y : Operand} {t ty : TypeId} {pos : String} {aft : Array Edge} {g : Option (Nat × Bool)} {p : Addr} {v : Value} {r : Row}
def Ty.plain (T : Ty) (t : TypeId) : Bool := match T.row t with
  | some r => match r.k.known with
    | true => match r.k.agg with
      | true => false
      | false => match r.size with
        | 1 => true
        | _ => false
    | false => false
  | none => false
theorem Ty.plain_spec {T : Ty} (h : T.plain t = true) : ∃ r, T.row t = some r ∧ r.k.known = true ∧ r.k.agg = false ∧ r.size = 1 := by
  unfold Ty.plain at h
  split at h
  · rename_i r hr
    split at h
    · rename_i hk
      split at h
      · cases h
      · rename_i ha
        split at h
        · rename_i hs; exact ⟨r, hr, hk, ha, hs⟩
        · cases h
    · cases h
  · cases h
def Ty.aggN (T : Ty) (t : TypeId) : Option Nat := match T.row t with
  | some r => match r.k.agg with
    | true => some r.size
    | false => none
  | none => none
theorem Ty.aggN_spec {T : Ty} {k : Nat} (h : T.aggN t = some k) : ∃ r, T.row t = some r ∧ r.k.agg = true ∧ r.size = k := by
  unfold Ty.aggN at h
  split at h
  · rename_i r hr
    split at h
    · rename_i ha; exact ⟨r, hr, ha, Option.some.inj h⟩
    · cases h
  · cases h
theorem TyK.known_of_agg {k : TyK} (h : k.agg = true) : k.known = true := by cases k <;> simp_all [TyK.agg, TyK.known]
theorem RL.load (hT : T.Ok P) (hg : gd ops e ⟨d, .load t x, ty, pos, aft, g⟩ = some true) (hx : e.ev x = some (.pointer (some p))) (ht : T.plain t = true)
    (hc : m.cell? p = some v) (hp : putE n d v e = some e') (h : RL P ops Q rest n e' D m) : RL P ops Q (⟨d, .load t x, ty, pos, aft, g⟩ :: rest) n e D m := by
  obtain ⟨r, hr, hk, ha, _⟩ := Ty.plain_spec ht
  refine RL.value v hg (fun a w hf hs => ?_) hp h
  have h1 := (hT.row hr).run_isAgg hk w
  rw [ha] at h1
  simp [execOp, hf.ev hx, Instr.loadAt, Instr.sureAddr, loadVar, h1, hs.cell, hc]
theorem RL.loadAgg (hT : T.Ok P) (vs : List Value) (hg : gd ops e ⟨d, .load t x, ty, pos, aft, g⟩ = some true) (hx : e.ev x = some (.pointer (some p))) (ht : T.aggN t = some vs.length)
    (hc : ∀ j u, vs[j]? = some u → m.cell? (p.add j) = some u) (hp : putE n d (.agg vs.toArray) e = some e') (h : RL P ops Q rest n e' D m) : RL P ops Q (⟨d, .load t x, ty, pos, aft, g⟩ :: rest) n e D m := by
  obtain ⟨r, hr, ha, hsz⟩ := Ty.aggN_spec ht
  refine RL.value _ hg (fun a w hf hs => ?_) hp h
  have h1 := (hT.row hr).run_isAgg (TyK.known_of_agg ha) w
  rw [ha] at h1
  have h2 := (hT.row hr).run_size w
  rw [hsz] at h2
  have h3 := run_loadCells_list (P := P) w p vs (fun j u hu => (hs.cell _).trans (hc j u hu))
  simp [execOp, hf.ev hx, Instr.loadAt, Instr.sureAddr, loadVar, h1, h2, h3]
theorem cells_of_one {v : Value} (h : v.oneCell' = true) : v.cells = #[v] := by cases v <;> simp_all [Value.cells, Value.oneCell']
theorem RL.store (hT : T.Ok P) {b i : Nat} {tb : TypeId} {cs : List Value} (hB : Blk m b tb cs) (hi : i < cs.length) (hg : gd ops e ⟨d, .store t x y, ty, pos, aft, g⟩ = some true)
    (hx : e.ev x = some (.pointer (some ⟨b, i, none⟩))) (hy : e.ev y = some v) (ht : T.plain t = true) (h1 : v.oneCell' = true) (hp : putE n d undef e = some e')
    (h : ∀ m', Chg m b (.cells (cs.set i v).toArray tb (0, 0)) m' → RL P ops Q rest n e' D m') : RL P ops Q (⟨d, .store t x y, ty, pos, aft, g⟩ :: rest) n e D m := by
  obtain ⟨r, hr, hk, ha, hsz⟩ := Ty.plain_spec ht
  refine RL.skipW (m.setRow b (cs.set i v).toArray) hg (fun a w hf hs => ?_) hp (h _ (setRow_chg hB _))
  have h2 := (hT.row hr).run_size w
  rw [hsz] at h2
  have hw : w.heap[b]? = some (.cells cs.toArray tb (0, 0)) := by rw [hs.heap]; exact hB
  have h3 := run_storeCells_at P b i tb [v] 0 cs.toArray w hw (by simp; omega) (fun u hu => by simp at hu; subst hu; exact h1)
  refine ⟨w.setRow b (cs.set i v).toArray, ?_, hs.setRow b _⟩
  have h4 : (cs.take (i + 0) ++ [v] ++ cs.drop (i + 0 + [v].length)) = cs.set i v := by
    rw [List.set_eq_take_append_cons_drop, if_pos hi]; simp
  rw [show (cs.toArray.toList.take (i + 0) ++ [v] ++ cs.toArray.toList.drop (i + 0 + [v].length)).toArray = (cs.set i v).toArray by rw [← h4]] at h3
  simp [execOp, hf.ev hx, hf.ev hy, Instr.storeAt, Instr.sureAddr, storeVar, h2, cells_of_one h1, h3]
theorem RL.storeAgg (hT : T.Ok P) {b i k : Nat} {tb : TypeId} {cs vs : List Value} (hB : Blk m b tb cs) (hg : gd ops e ⟨d, .store t x y, ty, pos, aft, g⟩ = some true)
    (hx : e.ev x = some (.pointer (some ⟨b, i, none⟩))) (hy : e.ev y = some (.agg vs.toArray)) (ht : T.aggN t = some k) (hk : vs.length = k) (hi : i + k ≤ cs.length) (h1 : ∀ v ∈ vs, v.oneCell' = true) (hp : putE n d undef e = some e')
    (h : ∀ m', Chg m b (.cells (cs.take i ++ vs ++ cs.drop (i + k)).toArray tb (0, 0)) m' → RL P ops Q rest n e' D m') : RL P ops Q (⟨d, .store t x y, ty, pos, aft, g⟩ :: rest) n e D m := by
  obtain ⟨r, hr, ha, hsz⟩ := Ty.aggN_spec ht
  subst hk
  refine RL.skipW (m.setRow b (cs.take i ++ vs ++ cs.drop (i + vs.length)).toArray) hg (fun a w hf hs => ?_) hp (h _ (setRow_chg hB _))
  have h2 := (hT.row hr).run_size w
  rw [hsz] at h2
  have hw : w.heap[b]? = some (.cells cs.toArray tb (0, 0)) := by rw [hs.heap]; exact hB
  have h3 := run_storeCells_at P b i tb vs 0 cs.toArray w hw (by simp; omega) h1
  refine ⟨w.setRow b (cs.take i ++ vs ++ cs.drop (i + vs.length)).toArray, ?_, hs.setRow b _⟩
  simp only [Nat.add_zero] at h3
  simp [execOp, hf.ev hx, hf.ev hy, Instr.storeAt, Instr.sureAddr, storeVar, h2, Value.cells]
  simp only [List.append_assoc] at h3
  rw [h3]
  rfl
theorem RL.alloc (hT : T.Ok P) (hr : T.row t = some r) (hg : gd ops e ⟨d, .alloc t, ty, pos, aft, g⟩ = some true)
    (h : ∀ b m', b = m.heap.size → Chg m b (.cells r.zero.cells t (0, 0)) m' → ∃ e', putE n d (.pointer (some ⟨b, 0, none⟩)) e = some e' ∧ RL P ops Q rest n e' D m') : RL P ops Q (⟨d, .alloc t, ty, pos, aft, g⟩ :: rest) n e D m := by
  obtain ⟨e', hp, hk⟩ := h m.heap.size _ rfl (Chg.alloc m _)
  refine RL.valueW _ _ hg (fun a w hf hs => ⟨_, ?_, hs.alloc _⟩) hp hk
  simp [execOp, Instr.alloc, (hT.row hr).run_zero, newVar, newRow, hs.size]
theorem RL.box (hx : e.ev x = some v) (hg : gd ops e ⟨d, .box t x, ty, pos, aft, g⟩ = some true)
    (h : ∀ b m', b = m.heap.size → Chg m b (.cells v.cells t (0, 0)) m' → ∃ e', putE n d (.pointer (some ⟨b, 0, none⟩)) e = some e' ∧ RL P ops Q rest n e' D m') : RL P ops Q (⟨d, .box t x, ty, pos, aft, g⟩ :: rest) n e D m := by
  obtain ⟨e', hp, hk⟩ := h m.heap.size _ rfl (Chg.alloc m _)
  refine RL.valueW _ _ hg (fun a w hf hs => ⟨_, ?_, hs.alloc _⟩) hp hk
  simp [execOp, Instr.box, hf.ev hx, newVar, newRow, hs.size]
theorem callFunc_run {f : FuncId} (hc : Callable P f) (args : Array Value) (w : World) : (callFunc f args).run P w = .ok (.enter f args) w := by
  obtain ⟨fn, hf, hn, hb⟩ := hc
  simp only [callFunc, Sem.run_bind, run_program, Result.andThen_ok, hf, hn, hb, Bool.false_eq_true, if_false, Sem.run_pure]
theorem call_run {f : FuncId} {fo : Operand} {xs : Array Operand} {ts : Array TypeId} {fi ca : Array Value} {vs : List Value} {a : Act} (hf : Fits n e D a) (hc : Callable P f)
    (hfo : e.ev fo = some (.func (.func f) fi ca)) (hxs : e.evs xs.toList = some vs) (w : World) :
    (execOp a.eval ⟨d, .call ⟨.value fo, xs, ts⟩, ty, pos, aft, g⟩).run P w = .ok (.enter f (fi.toList ++ vs ++ ca.toList).toArray) w := by
  have h1 : xs.map a.eval = vs.toArray := Array.ext' (by rw [Array.toList_map]; exact hf.evs hxs)
  simp [execOp, resolve, hf.ev hfo, Deferred.ofValue, invoke, h1, callFunc_run hc]
theorem RL.call {f : FuncId} {fo : Operand} {xs : Array Operand} {ts : Array TypeId} {fi ca : List Value} {vs al : List Value} {post : Value → World → Prop}
    (hg : gd ops e ⟨d, .call ⟨.value fo, xs, ts⟩, ty, pos, aft, g⟩ = some true)
    (hfo : e.ev fo = some (.func (.func f) fi.toArray ca.toArray)) (hxs : e.evs xs.toList = some vs) (has : fi ++ vs ++ ca = al) (hc : FnR P f al m post)
    (h : ∀ v m', post v m' → ∃ e', putE n d v e = some e' ∧ RL P ops Q rest n e' D m') : RL P ops Q (⟨d, .call ⟨.value fo, xs, ts⟩, ty, pos, aft, g⟩ :: rest) n e D m := by
  subst has
  refine RL.run hg (fun _ hh => by cases hh) fun a w hf hs => ?_
  rw [call_run hf hc.1 hfo hxs w]
  refine ⟨(fun hh => by cases hh), Calls.fr D _ ((hc.2 w hs).mono fun ed w' ⟨m', hs', v, he, hpost⟩ => ?_)⟩
  subst he
  obtain ⟨e', hp, hk⟩ := h v m' hpost
  exact hk _ w' (hf.put hp) hs'
theorem RL.callE {f : FuncId} {fo : Operand} {xs : Array Operand} {ts : Array TypeId} {fi ca : List Value} {vs al : List Value} {post : Ending → World → Prop}
    (hg : gd ops e ⟨d, .call ⟨.value fo, xs, ts⟩, ty, pos, aft, g⟩ = some true)
    (hfo : e.ev fo = some (.func (.func f) fi.toArray ca.toArray)) (hxs : e.evs xs.toList = some vs) (has : fi ++ vs ++ ca = al) (hc : FnE P f al m post)
    (h : ∀ v m', post (.returned v) m' → ∃ e', putE n d v e = some e' ∧ RL P ops Q rest n e' D m')
    (hpan : ∀ ch m', post (.panicked ch) m' → QN Q (.panic ch) n e D m') (hout : ∀ m', ¬ post .outgrown m') : RL P ops Q (⟨d, .call ⟨.value fo, xs, ts⟩, ty, pos, aft, g⟩ :: rest) n e D m := by
  subst has
  refine RL.run hg (fun _ hh => by cases hh) fun a w hf hs => ?_
  rw [call_run hf hc.1 hfo hxs w]
  refine ⟨(fun hh => by cases hh), Calls.fr D _ ((hc.2 w hs).mono fun ed w' ⟨m', hs', hpost⟩ => ?_)⟩
  cases ed with
  | returned v =>
    obtain ⟨e', hp, hk⟩ := h v m' hpost
    exact hk _ w' (hf.put hp) hs'
  | panicked ch => exact hpan ch m' hpost a w' hf hs'
  | outgrown => exact absurd hpost (hout m')
theorem RL.panic {v : Value} {tt : TypeId} {u : Value} (hv : v = .iface tt u) (hg : gd ops e ⟨d, .panic x, ty, pos, aft, g⟩ = some true) (hx : e.ev x = some v)
    (h : QN Q (.panic [{ v, recovered := false }]) n e D m) : RL P ops Q (⟨d, .panic x, ty, pos, aft, g⟩ :: rest) n e D m := by
  subst hv
  refine RL.run hg (fun _ hh => by cases hh) fun a w hf hs => ?_
  have : (execOp a.eval ⟨d, .panic x, ty, pos, aft, g⟩).run P w = .halt (.panic (.iface tt u)) w := by
    simp [execOp, hf.ev hx, Instr.panic]
  rw [this]
  exact h a w hf hs
theorem RL.indexAddr (hT : T.Ok P) {te : TypeId} {ad : Addr} {len cap k : Nat} {j : Int} {kk : IntKind} {rt : Row} (hrt : T.row t = some rt) (hk : rt.k = .sli te) (hr : T.row te = some r)
    (hg : gd ops e ⟨d, .indexAddr t x y, ty, pos, aft, g⟩ = some true) (hx : e.ev x = some (.slice (some ad) len cap)) (hy : e.ev y = some (.int kk j)) (hj : j = (k : Int)) (hlt : k < len)
    (hp : putE n d (.pointer (some (ad.add (k * r.size)))) e = some e') (h : RL P ops Q rest n e' D m) : RL P ops Q (⟨d, .indexAddr t x y, ty, pos, aft, g⟩ :: rest) n e D m := by
  subst hj
  have hu := (hT.row hrt).k
  rw [hk] at hu
  refine RL.value _ hg (fun a w hf hs => ?_) hp h
  simp [execOp, hf.ev hx, hf.ev hy, Instr.indexAt, asIntOf, run_underlying hu, (hT.row hr).run_size, hlt]
end
section
variable {P : Program} {T : Ty} {ops : Array Oper} {Q : Exit → Act → World → Prop} {rest : List Oper} {n : Nat} {e e' : Env} {D : Fr} {m : World}
  {d : Option Tmp} {x y : Operand} {t ty ty1 : TypeId} {pos pos1 : String} {aft aft1 : Array Edge} {v : Value} {r : Row}
def notTmp (x : Operand) (d1 : Tmp) : Bool := match x with
  | .tmp k => match Nat.beq k d1 with
    | true => false
    | false => true
  | _ => true
theorem ev_far {x : Operand} {d1 : Tmp} {u : Value} (h : notTmp x d1 = true) : Env.ev ((d1, u) :: e) x = e.ev x := by
  cases x with
  | tmp k =>
    unfold notTmp at h
    simp only at h
    split at h
    · cases h
    · rename_i hb
      have hb := Nat.ne_of_beq_eq_false hb
      have hb' : Nat.beq d1 k = false := by
        cases hq : Nat.beq d1 k with
        | false => rfl
        | true => exact absurd (Nat.eq_of_beq_eq_true hq).symm hb
      simp [Env.ev, Env.get, hb']
  | _ => rfl
end
end Go.Ev
end
section
namespace Go.Proofs.YtgpgladbdoimdaaGreatDoor
open Go.Ev
theorem ty1 : ROk Tryz.prog 1 ⟨.func, 1, 8, .nilFunc⟩ := ⟨⟨_, _, _, Tryz.underlying1⟩, by kernel_rfl⟩
theorem ty2 : ROk Tryz.prog 2 ⟨.int .i64, 1, 8, .int .i64 0⟩ := ⟨Tryz.underlying2, by kernel_rfl⟩
theorem ty3 : ROk Tryz.prog 3 ⟨.int .i64, 1, 8, .int .i64 0⟩ := ⟨Tryz.underlying3, by kernel_rfl⟩
theorem ty4 : ROk Tryz.prog 4 ⟨.bool, 1, 1, .bool false⟩ := ⟨Tryz.underlying4, by kernel_rfl⟩
theorem ty5 : ROk Tryz.prog 5 ⟨.int .u8, 1, 1, .int .u8 0⟩ := ⟨Tryz.underlying5, by kernel_rfl⟩
theorem ty6 : ROk Tryz.prog 6 ⟨.int .u8, 1, 1, .int .u8 0⟩ := ⟨Tryz.underlying6, by kernel_rfl⟩
theorem ty7 : ROk Tryz.prog 7 ⟨.stru [(2, 0, 1), (3, 1, 1), (4, 2, 1), (6, 3, 1)], 4, 24, .agg #[.int .i64 0, .int .i64 0, .bool false, .int .u8 0]⟩ := ⟨⟨_, Tryz.underlying7, by kernel_rfl⟩, by kernel_rfl⟩
theorem ty8 : ROk Tryz.prog 8 ⟨.stru [(2, 0, 1), (3, 1, 1), (4, 2, 1), (6, 3, 1)], 4, 24, .agg #[.int .i64 0, .int .i64 0, .bool false, .int .u8 0]⟩ := ⟨⟨_, Tryz.underlying8, by kernel_rfl⟩, by kernel_rfl⟩
theorem ty9 : ROk Tryz.prog 9 ⟨.str, 1, 16, .string ⟨#[]⟩⟩ := ⟨Tryz.underlying9, by kernel_rfl⟩
theorem ty10 : ROk Tryz.prog 10 ⟨.str, 1, 16, .string ⟨#[]⟩⟩ := ⟨Tryz.underlying10, by kernel_rfl⟩
theorem ty11 : ROk Tryz.prog 11 ⟨.str, 1, 16, .string ⟨#[]⟩⟩ := ⟨Tryz.underlying11, by kernel_rfl⟩
theorem ty12 : ROk Tryz.prog 12 ⟨.int .u64, 1, 8, .int .u64 0⟩ := ⟨Tryz.underlying12, by kernel_rfl⟩
theorem ty13 : ROk Tryz.prog 13 ⟨.stru [(9, 0, 1), (12, 1, 1)], 2, 24, .agg #[.string ⟨#[]⟩, .int .u64 0]⟩ := ⟨⟨_, Tryz.underlying13, by kernel_rfl⟩, by kernel_rfl⟩
theorem ty14 : ROk Tryz.prog 14 ⟨.stru [(9, 0, 1), (12, 1, 1)], 2, 24, .agg #[.string ⟨#[]⟩, .int .u64 0]⟩ := ⟨⟨_, Tryz.underlying14, by kernel_rfl⟩, by kernel_rfl⟩
theorem ty15 : ROk Tryz.prog 15 ⟨.ptr 334, 1, 8, .pointer none⟩ := ⟨Tryz.underlying15, by kernel_rfl⟩
theorem ty16 : ROk Tryz.prog 16 ⟨.ptr 337, 1, 8, .pointer none⟩ := ⟨Tryz.underlying16, by kernel_rfl⟩
theorem ty17 : ROk Tryz.prog 17 ⟨.ptr 345, 1, 8, .pointer none⟩ := ⟨Tryz.underlying17, by kernel_rfl⟩
theorem ty18 : ROk Tryz.prog 18 ⟨.stru [(17, 0, 1)], 1, 8, .agg #[.pointer none]⟩ := ⟨⟨_, Tryz.underlying18, by kernel_rfl⟩, by kernel_rfl⟩
theorem ty19 : ROk Tryz.prog 19 ⟨.stru [(17, 0, 1)], 1, 8, .agg #[.pointer none]⟩ := ⟨⟨_, Tryz.underlying19, by kernel_rfl⟩, by kernel_rfl⟩
theorem ty20 : ROk Tryz.prog 20 ⟨.iface, 1, 16, .nilIface⟩ := ⟨⟨_, Tryz.underlying20⟩, by kernel_rfl⟩
theorem ty21 : ROk Tryz.prog 21 ⟨.int .i32, 1, 4, .int .i32 0⟩ := ⟨Tryz.underlying21, by kernel_rfl⟩
theorem ty22 : ROk Tryz.prog 22 ⟨.sli 65, 1, 24, .slice none 0 0⟩ := ⟨Tryz.underlying22, by kernel_rfl⟩
theorem ty23 : ROk Tryz.prog 23 ⟨.func, 1, 8, .nilFunc⟩ := ⟨⟨_, _, _, Tryz.underlying23⟩, by kernel_rfl⟩
theorem ty24 : ROk Tryz.prog 24 ⟨.ptr 147, 1, 8, .pointer none⟩ := ⟨Tryz.underlying24, by kernel_rfl⟩
theorem ty25 : ROk Tryz.prog 25 ⟨.ptr 50, 1, 8, .pointer none⟩ := ⟨Tryz.underlying25, by kernel_rfl⟩
theorem ty27 : ROk Tryz.prog 27 ⟨.func, 1, 8, .nilFunc⟩ := ⟨⟨_, _, _, Tryz.underlying27⟩, by kernel_rfl⟩
theorem ty28 : ROk Tryz.prog 28 ⟨.int .u64, 1, 8, .int .u64 0⟩ := ⟨Tryz.underlying28, by kernel_rfl⟩
theorem ty29 : ROk Tryz.prog 29 ⟨.stru [(28, 0, 1), (28, 1, 1)], 2, 16, .agg #[.int .u64 0, .int .u64 0]⟩ := ⟨⟨_, Tryz.underlying29, by kernel_rfl⟩, by kernel_rfl⟩
theorem ty30 : ROk Tryz.prog 30 ⟨.stru [(28, 0, 1), (28, 1, 1)], 2, 16, .agg #[.int .u64 0, .int .u64 0]⟩ := ⟨⟨_, Tryz.underlying30, by kernel_rfl⟩, by kernel_rfl⟩
theorem ty31 : ROk Tryz.prog 31 ⟨.stru [(30, 0, 2), (4, 2, 1)], 3, 24, .agg #[.int .u64 0, .int .u64 0, .bool false]⟩ := ⟨⟨_, Tryz.underlying31, by kernel_rfl⟩, by kernel_rfl⟩
theorem ty32 : ROk Tryz.prog 32 ⟨.stru [(30, 0, 2), (4, 2, 1)], 3, 24, .agg #[.int .u64 0, .int .u64 0, .bool false]⟩ := ⟨⟨_, Tryz.underlying32, by kernel_rfl⟩, by kernel_rfl⟩
theorem ty34 : ROk Tryz.prog 34 ⟨.func, 1, 8, .nilFunc⟩ := ⟨⟨_, _, _, Tryz.underlying34⟩, by kernel_rfl⟩
theorem ty35 : ROk Tryz.prog 35 ⟨.func, 1, 8, .nilFunc⟩ := ⟨⟨_, _, _, Tryz.underlying35⟩, by kernel_rfl⟩
theorem ty36 : ROk Tryz.prog 36 ⟨.func, 1, 8, .nilFunc⟩ := ⟨⟨_, _, _, Tryz.underlying36⟩, by kernel_rfl⟩
theorem ty37 : ROk Tryz.prog 37 ⟨.sli 30, 1, 24, .slice none 0 0⟩ := ⟨Tryz.underlying37, by kernel_rfl⟩
theorem ty38 : ROk Tryz.prog 38 ⟨.func, 1, 8, .nilFunc⟩ := ⟨⟨_, _, _, Tryz.underlying38⟩, by kernel_rfl⟩
theorem ty40 : ROk Tryz.prog 40 ⟨.func, 1, 8, .nilFunc⟩ := ⟨⟨_, _, _, Tryz.underlying40⟩, by kernel_rfl⟩
theorem ty41 : ROk Tryz.prog 41 ⟨.func, 1, 8, .nilFunc⟩ := ⟨⟨_, _, _, Tryz.underlying41⟩, by kernel_rfl⟩
theorem ty42 : ROk Tryz.prog 42 ⟨.func, 1, 8, .nilFunc⟩ := ⟨⟨_, _, _, Tryz.underlying42⟩, by kernel_rfl⟩
theorem ty43 : ROk Tryz.prog 43 ⟨.sli 55, 1, 24, .slice none 0 0⟩ := ⟨Tryz.underlying43, by kernel_rfl⟩
theorem ty44 : ROk Tryz.prog 44 ⟨.sli 193, 1, 24, .slice none 0 0⟩ := ⟨Tryz.underlying44, by kernel_rfl⟩
theorem ty45 : ROk Tryz.prog 45 ⟨.sli 122, 1, 24, .slice none 0 0⟩ := ⟨Tryz.underlying45, by kernel_rfl⟩
theorem ty46 : ROk Tryz.prog 46 ⟨.sli 167, 1, 24, .slice none 0 0⟩ := ⟨Tryz.underlying46, by kernel_rfl⟩
theorem ty47 : ROk Tryz.prog 47 ⟨.ptr 162, 1, 8, .pointer none⟩ := ⟨Tryz.underlying47, by kernel_rfl⟩
theorem ty48 : ROk Tryz.prog 48 ⟨.ptr 134, 1, 8, .pointer none⟩ := ⟨Tryz.underlying48, by kernel_rfl⟩
theorem ty49 : ROk Tryz.prog 49 ⟨.stru [(43, 0, 1), (44, 1, 1), (45, 2, 1), (46, 3, 1), (47, 4, 1), (48, 5, 1), (43, 6, 1), (46, 7, 1), (43, 8, 1)], 9, 184, .agg #[.slice none 0 0, .slice none 0 0, .slice none 0 0, .slice none 0 0, .pointer none, .pointer none, .slice none 0 0, .slice none 0 0, .slice none 0 0]⟩ := ⟨⟨_, Tryz.underlying49, by kernel_rfl⟩, by kernel_rfl⟩
theorem ty50 : ROk Tryz.prog 50 ⟨.stru [(43, 0, 1), (44, 1, 1), (45, 2, 1), (46, 3, 1), (47, 4, 1), (48, 5, 1), (43, 6, 1), (46, 7, 1), (43, 8, 1)], 9, 184, .agg #[.slice none 0 0, .slice none 0 0, .slice none 0 0, .slice none 0 0, .pointer none, .pointer none, .slice none 0 0, .slice none 0 0, .slice none 0 0]⟩ := ⟨⟨_, Tryz.underlying50, by kernel_rfl⟩, by kernel_rfl⟩
theorem ty51 : ROk Tryz.prog 51 ⟨.float .f64, 1, 8, .float .f64 0⟩ := ⟨Tryz.underlying51, by kernel_rfl⟩
theorem ty52 : ROk Tryz.prog 52 ⟨.stru [(3, 0, 1), (2, 1, 1), (51, 2, 1), (9, 3, 1)], 4, 40, .agg #[.int .i64 0, .int .i64 0, .float .f64 0, .string ⟨#[]⟩]⟩ := ⟨⟨_, Tryz.underlying52, by kernel_rfl⟩, by kernel_rfl⟩
theorem ty53 : ROk Tryz.prog 53 ⟨.stru [(3, 0, 1), (2, 1, 1), (51, 2, 1), (9, 3, 1)], 4, 40, .agg #[.int .i64 0, .int .i64 0, .float .f64 0, .string ⟨#[]⟩]⟩ := ⟨⟨_, Tryz.underlying53, by kernel_rfl⟩, by kernel_rfl⟩
theorem ty54 : ROk Tryz.prog 54 ⟨.stru [(30, 0, 2), (3, 2, 1), (28, 3, 1), (30, 4, 2), (30, 6, 2), (9, 8, 1), (53, 9, 4), (9, 13, 1), (30, 14, 2), (32, 16, 3), (32, 19, 3)], 22, 200, .agg #[.int .u64 0, .int .u64 0, .int .i64 0, .int .u64 0, .int .u64 0, .int .u64 0, .int .u64 0, .int .u64 0, .string ⟨#[]⟩, .int .i64 0, .int .i64 0, .float .f64 0, .string ⟨#[]⟩, .string ⟨#[]⟩, .int .u64 0, .int .u64 0, .int .u64 0, .int .u64 0, .bool false, .int .u64 0, .int .u64 0, .bool false]⟩ := ⟨⟨_, Tryz.underlying54, by kernel_rfl⟩, by kernel_rfl⟩
theorem ty55 : ROk Tryz.prog 55 ⟨.stru [(30, 0, 2), (3, 2, 1), (28, 3, 1), (30, 4, 2), (30, 6, 2), (9, 8, 1), (53, 9, 4), (9, 13, 1), (30, 14, 2), (32, 16, 3), (32, 19, 3)], 22, 200, .agg #[.int .u64 0, .int .u64 0, .int .i64 0, .int .u64 0, .int .u64 0, .int .u64 0, .int .u64 0, .int .u64 0, .string ⟨#[]⟩, .int .i64 0, .int .i64 0, .float .f64 0, .string ⟨#[]⟩, .string ⟨#[]⟩, .int .u64 0, .int .u64 0, .int .u64 0, .int .u64 0, .bool false, .int .u64 0, .int .u64 0, .bool false]⟩ := ⟨⟨_, Tryz.underlying55, by kernel_rfl⟩, by kernel_rfl⟩
theorem ty56 : ROk Tryz.prog 56 ⟨.func, 1, 8, .nilFunc⟩ := ⟨⟨_, _, _, Tryz.underlying56⟩, by kernel_rfl⟩
theorem ty57 : ROk Tryz.prog 57 ⟨.stru [(43, 0, 1), (45, 1, 1)], 2, 48, .agg #[.slice none 0 0, .slice none 0 0]⟩ := ⟨⟨_, Tryz.underlying57, by kernel_rfl⟩, by kernel_rfl⟩
theorem ty58 : ROk Tryz.prog 58 ⟨.stru [(43, 0, 1), (45, 1, 1)], 2, 48, .agg #[.slice none 0 0, .slice none 0 0]⟩ := ⟨⟨_, Tryz.underlying58, by kernel_rfl⟩, by kernel_rfl⟩
theorem ty60 : ROk Tryz.prog 60 ⟨.func, 1, 8, .nilFunc⟩ := ⟨⟨_, _, _, Tryz.underlying60⟩, by kernel_rfl⟩
theorem ty61 : ROk Tryz.prog 61 ⟨.sli 9, 1, 24, .slice none 0 0⟩ := ⟨Tryz.underlying61, by kernel_rfl⟩
theorem ty62 : ROk Tryz.prog 62 ⟨.stru [(3, 0, 1), (3, 1, 1), (3, 2, 1), (9, 3, 1), (53, 4, 4), (9, 8, 1), (61, 9, 1)], 10, 120, .agg #[.int .i64 0, .int .i64 0, .int .i64 0, .string ⟨#[]⟩, .int .i64 0, .int .i64 0, .float .f64 0, .string ⟨#[]⟩, .string ⟨#[]⟩, .slice none 0 0]⟩ := ⟨⟨_, Tryz.underlying62, by kernel_rfl⟩, by kernel_rfl⟩
theorem ty63 : ROk Tryz.prog 63 ⟨.stru [(3, 0, 1), (3, 1, 1), (3, 2, 1), (9, 3, 1), (53, 4, 4), (9, 8, 1), (61, 9, 1)], 10, 120, .agg #[.int .i64 0, .int .i64 0, .int .i64 0, .string ⟨#[]⟩, .int .i64 0, .int .i64 0, .float .f64 0, .string ⟨#[]⟩, .string ⟨#[]⟩, .slice none 0 0]⟩ := ⟨⟨_, Tryz.underlying63, by kernel_rfl⟩, by kernel_rfl⟩
theorem ty64 : ROk Tryz.prog 64 ⟨.func, 1, 8, .nilFunc⟩ := ⟨⟨_, _, _, Tryz.underlying64⟩, by kernel_rfl⟩
theorem ty65 : ROk Tryz.prog 65 ⟨.int .u32, 1, 4, .int .u32 0⟩ := ⟨Tryz.underlying65, by kernel_rfl⟩
theorem ty66 : ROk Tryz.prog 66 ⟨.func, 1, 8, .nilFunc⟩ := ⟨⟨_, _, _, Tryz.underlying66⟩, by kernel_rfl⟩
theorem ty67 : ROk Tryz.prog 67 ⟨.int .i64, 1, 8, .int .i64 0⟩ := ⟨Tryz.underlying67, by kernel_rfl⟩
theorem ty69 : ROk Tryz.prog 69 ⟨.func, 1, 8, .nilFunc⟩ := ⟨⟨_, _, _, Tryz.underlying69⟩, by kernel_rfl⟩
theorem ty70 : ROk Tryz.prog 70 ⟨.func, 1, 8, .nilFunc⟩ := ⟨⟨_, _, _, Tryz.underlying70⟩, by kernel_rfl⟩
theorem ty71 : ROk Tryz.prog 71 ⟨.func, 1, 8, .nilFunc⟩ := ⟨⟨_, _, _, Tryz.underlying71⟩, by kernel_rfl⟩
theorem ty72 : ROk Tryz.prog 72 ⟨.func, 1, 8, .nilFunc⟩ := ⟨⟨_, _, _, Tryz.underlying72⟩, by kernel_rfl⟩
theorem ty73 : ROk Tryz.prog 73 ⟨.sli 5, 1, 24, .slice none 0 0⟩ := ⟨Tryz.underlying73, by kernel_rfl⟩
theorem ty74 : ROk Tryz.prog 74 ⟨.func, 1, 8, .nilFunc⟩ := ⟨⟨_, _, _, Tryz.underlying74⟩, by kernel_rfl⟩
theorem ty75 : ROk Tryz.prog 75 ⟨.stru [(73, 0, 1)], 1, 24, .agg #[.slice none 0 0]⟩ := ⟨⟨_, Tryz.underlying75, by kernel_rfl⟩, by kernel_rfl⟩
theorem ty76 : ROk Tryz.prog 76 ⟨.stru [(73, 0, 1)], 1, 24, .agg #[.slice none 0 0]⟩ := ⟨⟨_, Tryz.underlying76, by kernel_rfl⟩, by kernel_rfl⟩
theorem ty77 : ROk Tryz.prog 77 ⟨.func, 1, 8, .nilFunc⟩ := ⟨⟨_, _, _, Tryz.underlying77⟩, by kernel_rfl⟩
theorem ty78 : ROk Tryz.prog 78 ⟨.ptr 76, 1, 8, .pointer none⟩ := ⟨Tryz.underlying78, by kernel_rfl⟩
theorem ty79 : ROk Tryz.prog 79 ⟨.func, 1, 8, .nilFunc⟩ := ⟨⟨_, _, _, Tryz.underlying79⟩, by kernel_rfl⟩
theorem ty80 : ROk Tryz.prog 80 ⟨.ptr 153, 1, 8, .pointer none⟩ := ⟨Tryz.underlying80, by kernel_rfl⟩
theorem ty81 : ROk Tryz.prog 81 ⟨.func, 1, 8, .nilFunc⟩ := ⟨⟨_, _, _, Tryz.underlying81⟩, by kernel_rfl⟩
theorem ty82 : ROk Tryz.prog 82 ⟨.func, 1, 8, .nilFunc⟩ := ⟨⟨_, _, _, Tryz.underlying82⟩, by kernel_rfl⟩
theorem ty83 : ROk Tryz.prog 83 ⟨.func, 1, 8, .nilFunc⟩ := ⟨⟨_, _, _, Tryz.underlying83⟩, by kernel_rfl⟩
theorem ty84 : ROk Tryz.prog 84 ⟨.func, 1, 8, .nilFunc⟩ := ⟨⟨_, _, _, Tryz.underlying84⟩, by kernel_rfl⟩
theorem ty85 : ROk Tryz.prog 85 ⟨.func, 1, 8, .nilFunc⟩ := ⟨⟨_, _, _, Tryz.underlying85⟩, by kernel_rfl⟩
theorem ty86 : ROk Tryz.prog 86 ⟨.func, 1, 8, .nilFunc⟩ := ⟨⟨_, _, _, Tryz.underlying86⟩, by kernel_rfl⟩
theorem ty87 : ROk Tryz.prog 87 ⟨.func, 1, 8, .nilFunc⟩ := ⟨⟨_, _, _, Tryz.underlying87⟩, by kernel_rfl⟩
theorem ty88 : ROk Tryz.prog 88 ⟨.ptr 90, 1, 8, .pointer none⟩ := ⟨Tryz.underlying88, by kernel_rfl⟩
theorem ty89 : ROk Tryz.prog 89 ⟨.stru [(73, 0, 1), (3, 1, 1)], 2, 32, .agg #[.slice none 0 0, .int .i64 0]⟩ := ⟨⟨_, Tryz.underlying89, by kernel_rfl⟩, by kernel_rfl⟩
theorem ty90 : ROk Tryz.prog 90 ⟨.stru [(73, 0, 1), (3, 1, 1)], 2, 32, .agg #[.slice none 0 0, .int .i64 0]⟩ := ⟨⟨_, Tryz.underlying90, by kernel_rfl⟩, by kernel_rfl⟩
theorem ty91 : ROk Tryz.prog 91 ⟨.func, 1, 8, .nilFunc⟩ := ⟨⟨_, _, _, Tryz.underlying91⟩, by kernel_rfl⟩
theorem ty92 : ROk Tryz.prog 92 ⟨.func, 1, 8, .nilFunc⟩ := ⟨⟨_, _, _, Tryz.underlying92⟩, by kernel_rfl⟩
theorem ty93 : ROk Tryz.prog 93 ⟨.func, 1, 8, .nilFunc⟩ := ⟨⟨_, _, _, Tryz.underlying93⟩, by kernel_rfl⟩
theorem ty94 : ROk Tryz.prog 94 ⟨.func, 1, 8, .nilFunc⟩ := ⟨⟨_, _, _, Tryz.underlying94⟩, by kernel_rfl⟩
theorem ty95 : ROk Tryz.prog 95 ⟨.sli 58, 1, 24, .slice none 0 0⟩ := ⟨Tryz.underlying95, by kernel_rfl⟩
theorem ty96 : ROk Tryz.prog 96 ⟨.sli 25, 1, 24, .slice none 0 0⟩ := ⟨Tryz.underlying96, by kernel_rfl⟩
theorem ty98 : ROk Tryz.prog 98 ⟨.func, 1, 8, .nilFunc⟩ := ⟨⟨_, _, _, Tryz.underlying98⟩, by kernel_rfl⟩
theorem ty99 : ROk Tryz.prog 99 ⟨.func, 1, 8, .nilFunc⟩ := ⟨⟨_, _, _, Tryz.underlying99⟩, by kernel_rfl⟩
theorem ty100 : ROk Tryz.prog 100 ⟨.stru [(30, 0, 2), (30, 2, 2), (30, 4, 2)], 6, 48, .agg #[.int .u64 0, .int .u64 0, .int .u64 0, .int .u64 0, .int .u64 0, .int .u64 0]⟩ := ⟨⟨_, Tryz.underlying100, by kernel_rfl⟩, by kernel_rfl⟩
theorem ty101 : ROk Tryz.prog 101 ⟨.stru [(30, 0, 2), (30, 2, 2), (30, 4, 2)], 6, 48, .agg #[.int .u64 0, .int .u64 0, .int .u64 0, .int .u64 0, .int .u64 0, .int .u64 0]⟩ := ⟨⟨_, Tryz.underlying101, by kernel_rfl⟩, by kernel_rfl⟩
theorem ty103 : ROk Tryz.prog 103 ⟨.func, 1, 8, .nilFunc⟩ := ⟨⟨_, _, _, Tryz.underlying103⟩, by kernel_rfl⟩
theorem ty104 : ROk Tryz.prog 104 ⟨.func, 1, 8, .nilFunc⟩ := ⟨⟨_, _, _, Tryz.underlying104⟩, by kernel_rfl⟩
theorem ty105 : ROk Tryz.prog 105 ⟨.ptr 175, 1, 8, .pointer none⟩ := ⟨Tryz.underlying105, by kernel_rfl⟩
theorem ty106 : ROk Tryz.prog 106 ⟨.func, 1, 8, .nilFunc⟩ := ⟨⟨_, _, _, Tryz.underlying106⟩, by kernel_rfl⟩
theorem ty107 : ROk Tryz.prog 107 ⟨.func, 1, 8, .nilFunc⟩ := ⟨⟨_, _, _, Tryz.underlying107⟩, by kernel_rfl⟩
theorem ty108 : ROk Tryz.prog 108 ⟨.func, 1, 8, .nilFunc⟩ := ⟨⟨_, _, _, Tryz.underlying108⟩, by kernel_rfl⟩
theorem ty109 : ROk Tryz.prog 109 ⟨.func, 1, 8, .nilFunc⟩ := ⟨⟨_, _, _, Tryz.underlying109⟩, by kernel_rfl⟩
theorem ty110 : ROk Tryz.prog 110 ⟨.func, 1, 8, .nilFunc⟩ := ⟨⟨_, _, _, Tryz.underlying110⟩, by kernel_rfl⟩
theorem ty111 : ROk Tryz.prog 111 ⟨.func, 1, 8, .nilFunc⟩ := ⟨⟨_, _, _, Tryz.underlying111⟩, by kernel_rfl⟩
theorem ty112 : ROk Tryz.prog 112 ⟨.func, 1, 8, .nilFunc⟩ := ⟨⟨_, _, _, Tryz.underlying112⟩, by kernel_rfl⟩
theorem ty113 : ROk Tryz.prog 113 ⟨.func, 1, 8, .nilFunc⟩ := ⟨⟨_, _, _, Tryz.underlying113⟩, by kernel_rfl⟩
theorem ty114 : ROk Tryz.prog 114 ⟨.func, 1, 8, .nilFunc⟩ := ⟨⟨_, _, _, Tryz.underlying114⟩, by kernel_rfl⟩
theorem ty116 : ROk Tryz.prog 116 ⟨.func, 1, 8, .nilFunc⟩ := ⟨⟨_, _, _, Tryz.underlying116⟩, by kernel_rfl⟩
theorem ty117 : ROk Tryz.prog 117 ⟨.func, 1, 8, .nilFunc⟩ := ⟨⟨_, _, _, Tryz.underlying117⟩, by kernel_rfl⟩
theorem ty118 : ROk Tryz.prog 118 ⟨.func, 1, 8, .nilFunc⟩ := ⟨⟨_, _, _, Tryz.underlying118⟩, by kernel_rfl⟩
theorem ty119 : ROk Tryz.prog 119 ⟨.func, 1, 8, .nilFunc⟩ := ⟨⟨_, _, _, Tryz.underlying119⟩, by kernel_rfl⟩
theorem ty120 : ROk Tryz.prog 120 ⟨.func, 1, 8, .nilFunc⟩ := ⟨⟨_, _, _, Tryz.underlying120⟩, by kernel_rfl⟩
theorem ty121 : ROk Tryz.prog 121 ⟨.stru [(28, 0, 1), (28, 1, 1), (28, 2, 1), (28, 3, 1)], 4, 32, .agg #[.int .u64 0, .int .u64 0, .int .u64 0, .int .u64 0]⟩ := ⟨⟨_, Tryz.underlying121, by kernel_rfl⟩, by kernel_rfl⟩
theorem ty122 : ROk Tryz.prog 122 ⟨.stru [(28, 0, 1), (28, 1, 1), (28, 2, 1), (28, 3, 1)], 4, 32, .agg #[.int .u64 0, .int .u64 0, .int .u64 0, .int .u64 0]⟩ := ⟨⟨_, Tryz.underlying122, by kernel_rfl⟩, by kernel_rfl⟩
theorem ty123 : ROk Tryz.prog 123 ⟨.func, 1, 8, .nilFunc⟩ := ⟨⟨_, _, _, Tryz.underlying123⟩, by kernel_rfl⟩
theorem ty124 : ROk Tryz.prog 124 ⟨.func, 1, 8, .nilFunc⟩ := ⟨⟨_, _, _, Tryz.underlying124⟩, by kernel_rfl⟩
theorem ty126 : ROk Tryz.prog 126 ⟨.func, 1, 8, .nilFunc⟩ := ⟨⟨_, _, _, Tryz.underlying126⟩, by kernel_rfl⟩
theorem ty127 : ROk Tryz.prog 127 ⟨.int .u64, 1, 8, .int .u64 0⟩ := ⟨Tryz.underlying127, by kernel_rfl⟩
theorem ty128 : ROk Tryz.prog 128 ⟨.sli 53, 1, 24, .slice none 0 0⟩ := ⟨Tryz.underlying128, by kernel_rfl⟩
theorem ty129 : ROk Tryz.prog 129 ⟨.func, 1, 8, .nilFunc⟩ := ⟨⟨_, _, _, Tryz.underlying129⟩, by kernel_rfl⟩
theorem ty130 : ROk Tryz.prog 130 ⟨.func, 1, 8, .nilFunc⟩ := ⟨⟨_, _, _, Tryz.underlying130⟩, by kernel_rfl⟩
theorem ty131 : ROk Tryz.prog 131 ⟨.func, 1, 8, .nilFunc⟩ := ⟨⟨_, _, _, Tryz.underlying131⟩, by kernel_rfl⟩
theorem ty132 : ROk Tryz.prog 132 ⟨.func, 1, 8, .nilFunc⟩ := ⟨⟨_, _, _, Tryz.underlying132⟩, by kernel_rfl⟩
theorem ty133 : ROk Tryz.prog 133 ⟨.stru [(43, 0, 1), (46, 1, 1)], 2, 48, .agg #[.slice none 0 0, .slice none 0 0]⟩ := ⟨⟨_, Tryz.underlying133, by kernel_rfl⟩, by kernel_rfl⟩
theorem ty134 : ROk Tryz.prog 134 ⟨.stru [(43, 0, 1), (46, 1, 1)], 2, 48, .agg #[.slice none 0 0, .slice none 0 0]⟩ := ⟨⟨_, Tryz.underlying134, by kernel_rfl⟩, by kernel_rfl⟩
theorem ty136 : ROk Tryz.prog 136 ⟨.func, 1, 8, .nilFunc⟩ := ⟨⟨_, _, _, Tryz.underlying136⟩, by kernel_rfl⟩
theorem ty137 : ROk Tryz.prog 137 ⟨.func, 1, 8, .nilFunc⟩ := ⟨⟨_, _, _, Tryz.underlying137⟩, by kernel_rfl⟩
theorem ty138 : ROk Tryz.prog 138 ⟨.func, 1, 8, .nilFunc⟩ := ⟨⟨_, _, _, Tryz.underlying138⟩, by kernel_rfl⟩
theorem ty139 : ROk Tryz.prog 139 ⟨.func, 1, 8, .nilFunc⟩ := ⟨⟨_, _, _, Tryz.underlying139⟩, by kernel_rfl⟩
theorem ty140 : ROk Tryz.prog 140 ⟨.func, 1, 8, .nilFunc⟩ := ⟨⟨_, _, _, Tryz.underlying140⟩, by kernel_rfl⟩
theorem ty141 : ROk Tryz.prog 141 ⟨.ptr 213, 1, 8, .pointer none⟩ := ⟨Tryz.underlying141, by kernel_rfl⟩
theorem ty142 : ROk Tryz.prog 142 ⟨.map 28 28, 1, 8, .map none⟩ := ⟨Tryz.underlying142, by kernel_rfl⟩
theorem ty143 : ROk Tryz.prog 143 ⟨.map 30 55, 1, 8, .map none⟩ := ⟨Tryz.underlying143, by kernel_rfl⟩
theorem ty144 : ROk Tryz.prog 144 ⟨.map 30 267, 1, 8, .map none⟩ := ⟨Tryz.underlying144, by kernel_rfl⟩
theorem ty145 : ROk Tryz.prog 145 ⟨.ptr 208, 1, 8, .pointer none⟩ := ⟨Tryz.underlying145, by kernel_rfl⟩
theorem ty146 : ROk Tryz.prog 146 ⟨.stru [(141, 0, 1), (142, 1, 1), (45, 2, 1), (46, 3, 1), (143, 4, 1), (46, 5, 1), (105, 6, 1), (144, 7, 1), (43, 8, 1), (145, 9, 1), (46, 10, 1), (28, 11, 1)], 12, 176, .agg #[.pointer none, .map none, .slice none 0 0, .slice none 0 0, .map none, .slice none 0 0, .pointer none, .map none, .slice none 0 0, .pointer none, .slice none 0 0, .int .u64 0]⟩ := ⟨⟨_, Tryz.underlying146, by kernel_rfl⟩, by kernel_rfl⟩
theorem ty147 : ROk Tryz.prog 147 ⟨.stru [(141, 0, 1), (142, 1, 1), (45, 2, 1), (46, 3, 1), (143, 4, 1), (46, 5, 1), (105, 6, 1), (144, 7, 1), (43, 8, 1), (145, 9, 1), (46, 10, 1), (28, 11, 1)], 12, 176, .agg #[.pointer none, .map none, .slice none 0 0, .slice none 0 0, .map none, .slice none 0 0, .pointer none, .map none, .slice none 0 0, .pointer none, .slice none 0 0, .int .u64 0]⟩ := ⟨⟨_, Tryz.underlying147, by kernel_rfl⟩, by kernel_rfl⟩
theorem ty148 : ROk Tryz.prog 148 ⟨.func, 1, 8, .nilFunc⟩ := ⟨⟨_, _, _, Tryz.underlying148⟩, by kernel_rfl⟩
theorem ty149 : ROk Tryz.prog 149 ⟨.func, 1, 8, .nilFunc⟩ := ⟨⟨_, _, _, Tryz.underlying149⟩, by kernel_rfl⟩
theorem ty150 : ROk Tryz.prog 150 ⟨.func, 1, 8, .nilFunc⟩ := ⟨⟨_, _, _, Tryz.underlying150⟩, by kernel_rfl⟩
theorem ty151 : ROk Tryz.prog 151 ⟨.func, 1, 8, .nilFunc⟩ := ⟨⟨_, _, _, Tryz.underlying151⟩, by kernel_rfl⟩
theorem ty152 : ROk Tryz.prog 152 ⟨.stru [(73, 0, 1), (67, 1, 1)], 2, 32, .agg #[.slice none 0 0, .int .i64 0]⟩ := ⟨⟨_, Tryz.underlying152, by kernel_rfl⟩, by kernel_rfl⟩
theorem ty153 : ROk Tryz.prog 153 ⟨.stru [(73, 0, 1), (67, 1, 1)], 2, 32, .agg #[.slice none 0 0, .int .i64 0]⟩ := ⟨⟨_, Tryz.underlying153, by kernel_rfl⟩, by kernel_rfl⟩
theorem ty154 : ROk Tryz.prog 154 ⟨.func, 1, 8, .nilFunc⟩ := ⟨⟨_, _, _, Tryz.underlying154⟩, by kernel_rfl⟩
theorem ty155 : ROk Tryz.prog 155 ⟨.func, 1, 8, .nilFunc⟩ := ⟨⟨_, _, _, Tryz.underlying155⟩, by kernel_rfl⟩
theorem ty156 : ROk Tryz.prog 156 ⟨.func, 1, 8, .nilFunc⟩ := ⟨⟨_, _, _, Tryz.underlying156⟩, by kernel_rfl⟩
theorem ty157 : ROk Tryz.prog 157 ⟨.func, 1, 8, .nilFunc⟩ := ⟨⟨_, _, _, Tryz.underlying157⟩, by kernel_rfl⟩
theorem ty158 : ROk Tryz.prog 158 ⟨.sli 3, 1, 24, .slice none 0 0⟩ := ⟨Tryz.underlying158, by kernel_rfl⟩
theorem ty159 : ROk Tryz.prog 159 ⟨.func, 1, 8, .nilFunc⟩ := ⟨⟨_, _, _, Tryz.underlying159⟩, by kernel_rfl⟩
theorem ty160 : ROk Tryz.prog 160 ⟨.sli 164, 1, 24, .slice none 0 0⟩ := ⟨Tryz.underlying160, by kernel_rfl⟩
theorem ty161 : ROk Tryz.prog 161 ⟨.stru [(160, 0, 1), (158, 1, 1), (158, 2, 1)], 3, 72, .agg #[.slice none 0 0, .slice none 0 0, .slice none 0 0]⟩ := ⟨⟨_, Tryz.underlying161, by kernel_rfl⟩, by kernel_rfl⟩
theorem ty162 : ROk Tryz.prog 162 ⟨.stru [(160, 0, 1), (158, 1, 1), (158, 2, 1)], 3, 72, .agg #[.slice none 0 0, .slice none 0 0, .slice none 0 0]⟩ := ⟨⟨_, Tryz.underlying162, by kernel_rfl⟩, by kernel_rfl⟩
theorem ty163 : ROk Tryz.prog 163 ⟨.stru [(101, 0, 6), (3, 6, 1), (4, 7, 1), (158, 8, 1), (158, 9, 1)], 10, 112, .agg #[.int .u64 0, .int .u64 0, .int .u64 0, .int .u64 0, .int .u64 0, .int .u64 0, .int .i64 0, .bool false, .slice none 0 0, .slice none 0 0]⟩ := ⟨⟨_, Tryz.underlying163, by kernel_rfl⟩, by kernel_rfl⟩
theorem ty164 : ROk Tryz.prog 164 ⟨.stru [(101, 0, 6), (3, 6, 1), (4, 7, 1), (158, 8, 1), (158, 9, 1)], 10, 112, .agg #[.int .u64 0, .int .u64 0, .int .u64 0, .int .u64 0, .int .u64 0, .int .u64 0, .int .i64 0, .bool false, .slice none 0 0, .slice none 0 0]⟩ := ⟨⟨_, Tryz.underlying164, by kernel_rfl⟩, by kernel_rfl⟩
theorem ty165 : ROk Tryz.prog 165 ⟨.func, 1, 8, .nilFunc⟩ := ⟨⟨_, _, _, Tryz.underlying165⟩, by kernel_rfl⟩
theorem ty166 : ROk Tryz.prog 166 ⟨.stru [(28, 0, 1), (28, 1, 1), (28, 2, 1)], 3, 24, .agg #[.int .u64 0, .int .u64 0, .int .u64 0]⟩ := ⟨⟨_, Tryz.underlying166, by kernel_rfl⟩, by kernel_rfl⟩
theorem ty167 : ROk Tryz.prog 167 ⟨.stru [(28, 0, 1), (28, 1, 1), (28, 2, 1)], 3, 24, .agg #[.int .u64 0, .int .u64 0, .int .u64 0]⟩ := ⟨⟨_, Tryz.underlying167, by kernel_rfl⟩, by kernel_rfl⟩
theorem ty168 : ROk Tryz.prog 168 ⟨.func, 1, 8, .nilFunc⟩ := ⟨⟨_, _, _, Tryz.underlying168⟩, by kernel_rfl⟩
theorem ty169 : ROk Tryz.prog 169 ⟨.func, 1, 8, .nilFunc⟩ := ⟨⟨_, _, _, Tryz.underlying169⟩, by kernel_rfl⟩
theorem ty170 : ROk Tryz.prog 170 ⟨.func, 1, 8, .nilFunc⟩ := ⟨⟨_, _, _, Tryz.underlying170⟩, by kernel_rfl⟩
theorem ty171 : ROk Tryz.prog 171 ⟨.map 30 176, 1, 8, .map none⟩ := ⟨Tryz.underlying171, by kernel_rfl⟩
theorem ty172 : ROk Tryz.prog 172 ⟨.sli 176, 1, 24, .slice none 0 0⟩ := ⟨Tryz.underlying172, by kernel_rfl⟩
theorem ty173 : ROk Tryz.prog 173 ⟨.map 30 3, 1, 8, .map none⟩ := ⟨Tryz.underlying173, by kernel_rfl⟩
theorem ty174 : ROk Tryz.prog 174 ⟨.stru [(171, 0, 1), (172, 1, 1), (172, 2, 1), (173, 3, 1), (4, 4, 1)], 5, 72, .agg #[.map none, .slice none 0 0, .slice none 0 0, .map none, .bool false]⟩ := ⟨⟨_, Tryz.underlying174, by kernel_rfl⟩, by kernel_rfl⟩
theorem ty175 : ROk Tryz.prog 175 ⟨.stru [(171, 0, 1), (172, 1, 1), (172, 2, 1), (173, 3, 1), (4, 4, 1)], 5, 72, .agg #[.map none, .slice none 0 0, .slice none 0 0, .map none, .bool false]⟩ := ⟨⟨_, Tryz.underlying175, by kernel_rfl⟩, by kernel_rfl⟩
theorem ty176 : ROk Tryz.prog 176 ⟨.ptr 178, 1, 8, .pointer none⟩ := ⟨Tryz.underlying176, by kernel_rfl⟩
theorem ty177 : ROk Tryz.prog 177 ⟨.stru [(101, 0, 6), (176, 6, 1), (172, 7, 1), (172, 8, 1), (3, 9, 1)], 10, 112, .agg #[.int .u64 0, .int .u64 0, .int .u64 0, .int .u64 0, .int .u64 0, .int .u64 0, .pointer none, .slice none 0 0, .slice none 0 0, .int .i64 0]⟩ := ⟨⟨_, Tryz.underlying177, by kernel_rfl⟩, by kernel_rfl⟩
theorem ty178 : ROk Tryz.prog 178 ⟨.stru [(101, 0, 6), (176, 6, 1), (172, 7, 1), (172, 8, 1), (3, 9, 1)], 10, 112, .agg #[.int .u64 0, .int .u64 0, .int .u64 0, .int .u64 0, .int .u64 0, .int .u64 0, .pointer none, .slice none 0 0, .slice none 0 0, .int .i64 0]⟩ := ⟨⟨_, Tryz.underlying178, by kernel_rfl⟩, by kernel_rfl⟩
theorem ty179 : ROk Tryz.prog 179 ⟨.func, 1, 8, .nilFunc⟩ := ⟨⟨_, _, _, Tryz.underlying179⟩, by kernel_rfl⟩
theorem ty180 : ROk Tryz.prog 180 ⟨.func, 1, 8, .nilFunc⟩ := ⟨⟨_, _, _, Tryz.underlying180⟩, by kernel_rfl⟩
theorem ty181 : ROk Tryz.prog 181 ⟨.func, 1, 8, .nilFunc⟩ := ⟨⟨_, _, _, Tryz.underlying181⟩, by kernel_rfl⟩
theorem ty182 : ROk Tryz.prog 182 ⟨.sli 21, 1, 24, .slice none 0 0⟩ := ⟨Tryz.underlying182, by kernel_rfl⟩
theorem ty184 : ROk Tryz.prog 184 ⟨.func, 1, 8, .nilFunc⟩ := ⟨⟨_, _, _, Tryz.underlying184⟩, by kernel_rfl⟩
theorem ty185 : ROk Tryz.prog 185 ⟨.func, 1, 8, .nilFunc⟩ := ⟨⟨_, _, _, Tryz.underlying185⟩, by kernel_rfl⟩
theorem ty186 : ROk Tryz.prog 186 ⟨.func, 1, 8, .nilFunc⟩ := ⟨⟨_, _, _, Tryz.underlying186⟩, by kernel_rfl⟩
theorem ty188 : ROk Tryz.prog 188 ⟨.func, 1, 8, .nilFunc⟩ := ⟨⟨_, _, _, Tryz.underlying188⟩, by kernel_rfl⟩
theorem ty189 : ROk Tryz.prog 189 ⟨.func, 1, 8, .nilFunc⟩ := ⟨⟨_, _, _, Tryz.underlying189⟩, by kernel_rfl⟩
theorem ty190 : ROk Tryz.prog 190 ⟨.func, 1, 8, .nilFunc⟩ := ⟨⟨_, _, _, Tryz.underlying190⟩, by kernel_rfl⟩
theorem ty191 : ROk Tryz.prog 191 ⟨.func, 1, 8, .nilFunc⟩ := ⟨⟨_, _, _, Tryz.underlying191⟩, by kernel_rfl⟩
theorem ty192 : ROk Tryz.prog 192 ⟨.func, 1, 8, .nilFunc⟩ := ⟨⟨_, _, _, Tryz.underlying192⟩, by kernel_rfl⟩
theorem ty193 : ROk Tryz.prog 193 ⟨.stru [(28, 0, 1), (28, 1, 1)], 2, 16, .agg #[.int .u64 0, .int .u64 0]⟩ := ⟨⟨_, Tryz.underlying193, by kernel_rfl⟩, by kernel_rfl⟩
theorem ty194 : ROk Tryz.prog 194 ⟨.func, 1, 8, .nilFunc⟩ := ⟨⟨_, _, _, Tryz.underlying194⟩, by kernel_rfl⟩
theorem ty195 : ROk Tryz.prog 195 ⟨.func, 1, 8, .nilFunc⟩ := ⟨⟨_, _, _, Tryz.underlying195⟩, by kernel_rfl⟩
theorem ty196 : ROk Tryz.prog 196 ⟨.func, 1, 8, .nilFunc⟩ := ⟨⟨_, _, _, Tryz.underlying196⟩, by kernel_rfl⟩
theorem ty197 : ROk Tryz.prog 197 ⟨.func, 1, 8, .nilFunc⟩ := ⟨⟨_, _, _, Tryz.underlying197⟩, by kernel_rfl⟩
theorem ty198 : ROk Tryz.prog 198 ⟨.func, 1, 8, .nilFunc⟩ := ⟨⟨_, _, _, Tryz.underlying198⟩, by kernel_rfl⟩
theorem ty199 : ROk Tryz.prog 199 ⟨.stru [(67, 0, 1)], 1, 8, .agg #[.int .i64 0]⟩ := ⟨⟨_, Tryz.underlying199, by kernel_rfl⟩, by kernel_rfl⟩
theorem ty200 : ROk Tryz.prog 200 ⟨.stru [(67, 0, 1)], 1, 8, .agg #[.int .i64 0]⟩ := ⟨⟨_, Tryz.underlying200, by kernel_rfl⟩, by kernel_rfl⟩
theorem ty201 : ROk Tryz.prog 201 ⟨.func, 1, 8, .nilFunc⟩ := ⟨⟨_, _, _, Tryz.underlying201⟩, by kernel_rfl⟩
theorem ty202 : ROk Tryz.prog 202 ⟨.func, 1, 8, .nilFunc⟩ := ⟨⟨_, _, _, Tryz.underlying202⟩, by kernel_rfl⟩
theorem ty203 : ROk Tryz.prog 203 ⟨.func, 1, 8, .nilFunc⟩ := ⟨⟨_, _, _, Tryz.underlying203⟩, by kernel_rfl⟩
theorem ty204 : ROk Tryz.prog 204 ⟨.func, 1, 8, .nilFunc⟩ := ⟨⟨_, _, _, Tryz.underlying204⟩, by kernel_rfl⟩
theorem ty205 : ROk Tryz.prog 205 ⟨.func, 1, 8, .nilFunc⟩ := ⟨⟨_, _, _, Tryz.underlying205⟩, by kernel_rfl⟩
theorem ty206 : ROk Tryz.prog 206 ⟨.map 30 285, 1, 8, .map none⟩ := ⟨Tryz.underlying206, by kernel_rfl⟩
theorem ty207 : ROk Tryz.prog 207 ⟨.stru [(143, 0, 1), (206, 1, 1), (46, 2, 1)], 3, 40, .agg #[.map none, .map none, .slice none 0 0]⟩ := ⟨⟨_, Tryz.underlying207, by kernel_rfl⟩, by kernel_rfl⟩
theorem ty208 : ROk Tryz.prog 208 ⟨.stru [(143, 0, 1), (206, 1, 1), (46, 2, 1)], 3, 40, .agg #[.map none, .map none, .slice none 0 0]⟩ := ⟨⟨_, Tryz.underlying208, by kernel_rfl⟩, by kernel_rfl⟩
theorem ty209 : ROk Tryz.prog 209 ⟨.func, 1, 8, .nilFunc⟩ := ⟨⟨_, _, _, Tryz.underlying209⟩, by kernel_rfl⟩
theorem ty210 : ROk Tryz.prog 210 ⟨.func, 1, 8, .nilFunc⟩ := ⟨⟨_, _, _, Tryz.underlying210⟩, by kernel_rfl⟩
theorem ty211 : ROk Tryz.prog 211 ⟨.map 28 43, 1, 8, .map none⟩ := ⟨Tryz.underlying211, by kernel_rfl⟩
theorem ty212 : ROk Tryz.prog 212 ⟨.stru [(211, 0, 1), (43, 1, 1), (46, 2, 1)], 3, 56, .agg #[.map none, .slice none 0 0, .slice none 0 0]⟩ := ⟨⟨_, Tryz.underlying212, by kernel_rfl⟩, by kernel_rfl⟩
theorem ty213 : ROk Tryz.prog 213 ⟨.stru [(211, 0, 1), (43, 1, 1), (46, 2, 1)], 3, 56, .agg #[.map none, .slice none 0 0, .slice none 0 0]⟩ := ⟨⟨_, Tryz.underlying213, by kernel_rfl⟩, by kernel_rfl⟩
theorem ty214 : ROk Tryz.prog 214 ⟨.map 176 176, 1, 8, .map none⟩ := ⟨Tryz.underlying214, by kernel_rfl⟩
theorem ty215 : ROk Tryz.prog 215 ⟨.func, 1, 8, .nilFunc⟩ := ⟨⟨_, _, _, Tryz.underlying215⟩, by kernel_rfl⟩
theorem ty216 : ROk Tryz.prog 216 ⟨.func, 1, 8, .nilFunc⟩ := ⟨⟨_, _, _, Tryz.underlying216⟩, by kernel_rfl⟩
theorem ty217 : ROk Tryz.prog 217 ⟨.func, 1, 8, .nilFunc⟩ := ⟨⟨_, _, _, Tryz.underlying217⟩, by kernel_rfl⟩
theorem ty219 : ROk Tryz.prog 219 ⟨.func, 1, 8, .nilFunc⟩ := ⟨⟨_, _, _, Tryz.underlying219⟩, by kernel_rfl⟩
theorem ty220 : ROk Tryz.prog 220 ⟨.sli 28, 1, 24, .slice none 0 0⟩ := ⟨Tryz.underlying220, by kernel_rfl⟩
theorem ty221 : ROk Tryz.prog 221 ⟨.func, 1, 8, .nilFunc⟩ := ⟨⟨_, _, _, Tryz.underlying221⟩, by kernel_rfl⟩
theorem ty222 : ROk Tryz.prog 222 ⟨.func, 1, 8, .nilFunc⟩ := ⟨⟨_, _, _, Tryz.underlying222⟩, by kernel_rfl⟩
theorem ty223 : ROk Tryz.prog 223 ⟨.func, 1, 8, .nilFunc⟩ := ⟨⟨_, _, _, Tryz.underlying223⟩, by kernel_rfl⟩
theorem ty224 : ROk Tryz.prog 224 ⟨.func, 1, 8, .nilFunc⟩ := ⟨⟨_, _, _, Tryz.underlying224⟩, by kernel_rfl⟩
theorem ty225 : ROk Tryz.prog 225 ⟨.func, 1, 8, .nilFunc⟩ := ⟨⟨_, _, _, Tryz.underlying225⟩, by kernel_rfl⟩
theorem ty226 : ROk Tryz.prog 226 ⟨.func, 1, 8, .nilFunc⟩ := ⟨⟨_, _, _, Tryz.underlying226⟩, by kernel_rfl⟩
theorem ty227 : ROk Tryz.prog 227 ⟨.func, 1, 8, .nilFunc⟩ := ⟨⟨_, _, _, Tryz.underlying227⟩, by kernel_rfl⟩
theorem ty228 : ROk Tryz.prog 228 ⟨.func, 1, 8, .nilFunc⟩ := ⟨⟨_, _, _, Tryz.underlying228⟩, by kernel_rfl⟩
theorem ty229 : ROk Tryz.prog 229 ⟨.func, 1, 8, .nilFunc⟩ := ⟨⟨_, _, _, Tryz.underlying229⟩, by kernel_rfl⟩
theorem ty230 : ROk Tryz.prog 230 ⟨.func, 1, 8, .nilFunc⟩ := ⟨⟨_, _, _, Tryz.underlying230⟩, by kernel_rfl⟩
theorem ty231 : ROk Tryz.prog 231 ⟨.func, 1, 8, .nilFunc⟩ := ⟨⟨_, _, _, Tryz.underlying231⟩, by kernel_rfl⟩
theorem ty232 : ROk Tryz.prog 232 ⟨.func, 1, 8, .nilFunc⟩ := ⟨⟨_, _, _, Tryz.underlying232⟩, by kernel_rfl⟩
theorem ty233 : ROk Tryz.prog 233 ⟨.func, 1, 8, .nilFunc⟩ := ⟨⟨_, _, _, Tryz.underlying233⟩, by kernel_rfl⟩
theorem ty234 : ROk Tryz.prog 234 ⟨.func, 1, 8, .nilFunc⟩ := ⟨⟨_, _, _, Tryz.underlying234⟩, by kernel_rfl⟩
theorem ty235 : ROk Tryz.prog 235 ⟨.func, 1, 8, .nilFunc⟩ := ⟨⟨_, _, _, Tryz.underlying235⟩, by kernel_rfl⟩
theorem ty236 : ROk Tryz.prog 236 ⟨.func, 1, 8, .nilFunc⟩ := ⟨⟨_, _, _, Tryz.underlying236⟩, by kernel_rfl⟩
theorem ty237 : ROk Tryz.prog 237 ⟨.func, 1, 8, .nilFunc⟩ := ⟨⟨_, _, _, Tryz.underlying237⟩, by kernel_rfl⟩
theorem ty238 : ROk Tryz.prog 238 ⟨.func, 1, 8, .nilFunc⟩ := ⟨⟨_, _, _, Tryz.underlying238⟩, by kernel_rfl⟩
theorem ty239 : ROk Tryz.prog 239 ⟨.func, 1, 8, .nilFunc⟩ := ⟨⟨_, _, _, Tryz.underlying239⟩, by kernel_rfl⟩
theorem ty240 : ROk Tryz.prog 240 ⟨.func, 1, 8, .nilFunc⟩ := ⟨⟨_, _, _, Tryz.underlying240⟩, by kernel_rfl⟩
theorem ty241 : ROk Tryz.prog 241 ⟨.func, 1, 8, .nilFunc⟩ := ⟨⟨_, _, _, Tryz.underlying241⟩, by kernel_rfl⟩
theorem ty242 : ROk Tryz.prog 242 ⟨.sli 45, 1, 24, .slice none 0 0⟩ := ⟨Tryz.underlying242, by kernel_rfl⟩
theorem ty243 : ROk Tryz.prog 243 ⟨.func, 1, 8, .nilFunc⟩ := ⟨⟨_, _, _, Tryz.underlying243⟩, by kernel_rfl⟩
theorem ty244 : ROk Tryz.prog 244 ⟨.func, 1, 8, .nilFunc⟩ := ⟨⟨_, _, _, Tryz.underlying244⟩, by kernel_rfl⟩
theorem ty245 : ROk Tryz.prog 245 ⟨.func, 1, 8, .nilFunc⟩ := ⟨⟨_, _, _, Tryz.underlying245⟩, by kernel_rfl⟩
theorem ty246 : ROk Tryz.prog 246 ⟨.func, 1, 8, .nilFunc⟩ := ⟨⟨_, _, _, Tryz.underlying246⟩, by kernel_rfl⟩
theorem ty247 : ROk Tryz.prog 247 ⟨.func, 1, 8, .nilFunc⟩ := ⟨⟨_, _, _, Tryz.underlying247⟩, by kernel_rfl⟩
theorem ty248 : ROk Tryz.prog 248 ⟨.func, 1, 8, .nilFunc⟩ := ⟨⟨_, _, _, Tryz.underlying248⟩, by kernel_rfl⟩
theorem ty249 : ROk Tryz.prog 249 ⟨.func, 1, 8, .nilFunc⟩ := ⟨⟨_, _, _, Tryz.underlying249⟩, by kernel_rfl⟩
theorem ty250 : ROk Tryz.prog 250 ⟨.func, 1, 8, .nilFunc⟩ := ⟨⟨_, _, _, Tryz.underlying250⟩, by kernel_rfl⟩
theorem ty251 : ROk Tryz.prog 251 ⟨.func, 1, 8, .nilFunc⟩ := ⟨⟨_, _, _, Tryz.underlying251⟩, by kernel_rfl⟩
theorem ty252 : ROk Tryz.prog 252 ⟨.func, 1, 8, .nilFunc⟩ := ⟨⟨_, _, _, Tryz.underlying252⟩, by kernel_rfl⟩
theorem ty253 : ROk Tryz.prog 253 ⟨.func, 1, 8, .nilFunc⟩ := ⟨⟨_, _, _, Tryz.underlying253⟩, by kernel_rfl⟩
theorem ty254 : ROk Tryz.prog 254 ⟨.func, 1, 8, .nilFunc⟩ := ⟨⟨_, _, _, Tryz.underlying254⟩, by kernel_rfl⟩
theorem ty255 : ROk Tryz.prog 255 ⟨.func, 1, 8, .nilFunc⟩ := ⟨⟨_, _, _, Tryz.underlying255⟩, by kernel_rfl⟩
theorem ty256 : ROk Tryz.prog 256 ⟨.func, 1, 8, .nilFunc⟩ := ⟨⟨_, _, _, Tryz.underlying256⟩, by kernel_rfl⟩
theorem ty257 : ROk Tryz.prog 257 ⟨.func, 1, 8, .nilFunc⟩ := ⟨⟨_, _, _, Tryz.underlying257⟩, by kernel_rfl⟩
theorem ty258 : ROk Tryz.prog 258 ⟨.func, 1, 8, .nilFunc⟩ := ⟨⟨_, _, _, Tryz.underlying258⟩, by kernel_rfl⟩
theorem ty259 : ROk Tryz.prog 259 ⟨.func, 1, 8, .nilFunc⟩ := ⟨⟨_, _, _, Tryz.underlying259⟩, by kernel_rfl⟩
theorem ty260 : ROk Tryz.prog 260 ⟨.func, 1, 8, .nilFunc⟩ := ⟨⟨_, _, _, Tryz.underlying260⟩, by kernel_rfl⟩
theorem ty261 : ROk Tryz.prog 261 ⟨.func, 1, 8, .nilFunc⟩ := ⟨⟨_, _, _, Tryz.underlying261⟩, by kernel_rfl⟩
theorem ty262 : ROk Tryz.prog 262 ⟨.sli 46, 1, 24, .slice none 0 0⟩ := ⟨Tryz.underlying262, by kernel_rfl⟩
theorem ty263 : ROk Tryz.prog 263 ⟨.func, 1, 8, .nilFunc⟩ := ⟨⟨_, _, _, Tryz.underlying263⟩, by kernel_rfl⟩
theorem ty264 : ROk Tryz.prog 264 ⟨.func, 1, 8, .nilFunc⟩ := ⟨⟨_, _, _, Tryz.underlying264⟩, by kernel_rfl⟩
theorem ty265 : ROk Tryz.prog 265 ⟨.sli 347, 1, 24, .slice none 0 0⟩ := ⟨Tryz.underlying265, by kernel_rfl⟩
theorem ty266 : ROk Tryz.prog 266 ⟨.stru [(9, 0, 1), (4, 1, 1), (53, 2, 4), (265, 6, 1)], 7, 88, .agg #[.string ⟨#[]⟩, .bool false, .int .i64 0, .int .i64 0, .float .f64 0, .string ⟨#[]⟩, .slice none 0 0]⟩ := ⟨⟨_, Tryz.underlying266, by kernel_rfl⟩, by kernel_rfl⟩
theorem ty267 : ROk Tryz.prog 267 ⟨.stru [(9, 0, 1), (4, 1, 1), (53, 2, 4), (265, 6, 1)], 7, 88, .agg #[.string ⟨#[]⟩, .bool false, .int .i64 0, .int .i64 0, .float .f64 0, .string ⟨#[]⟩, .slice none 0 0]⟩ := ⟨⟨_, Tryz.underlying267, by kernel_rfl⟩, by kernel_rfl⟩
theorem ty268 : ROk Tryz.prog 268 ⟨.func, 1, 8, .nilFunc⟩ := ⟨⟨_, _, _, Tryz.underlying268⟩, by kernel_rfl⟩
theorem ty269 : ROk Tryz.prog 269 ⟨.func, 1, 8, .nilFunc⟩ := ⟨⟨_, _, _, Tryz.underlying269⟩, by kernel_rfl⟩
theorem ty270 : ROk Tryz.prog 270 ⟨.func, 1, 8, .nilFunc⟩ := ⟨⟨_, _, _, Tryz.underlying270⟩, by kernel_rfl⟩
theorem ty271 : ROk Tryz.prog 271 ⟨.func, 1, 8, .nilFunc⟩ := ⟨⟨_, _, _, Tryz.underlying271⟩, by kernel_rfl⟩
theorem ty272 : ROk Tryz.prog 272 ⟨.func, 1, 8, .nilFunc⟩ := ⟨⟨_, _, _, Tryz.underlying272⟩, by kernel_rfl⟩
theorem ty273 : ROk Tryz.prog 273 ⟨.func, 1, 8, .nilFunc⟩ := ⟨⟨_, _, _, Tryz.underlying273⟩, by kernel_rfl⟩
theorem ty274 : ROk Tryz.prog 274 ⟨.func, 1, 8, .nilFunc⟩ := ⟨⟨_, _, _, Tryz.underlying274⟩, by kernel_rfl⟩
theorem ty275 : ROk Tryz.prog 275 ⟨.stru [(67, 0, 1)], 1, 8, .agg #[.int .i64 0]⟩ := ⟨⟨_, Tryz.underlying275, by kernel_rfl⟩, by kernel_rfl⟩
theorem ty276 : ROk Tryz.prog 276 ⟨.stru [(67, 0, 1)], 1, 8, .agg #[.int .i64 0]⟩ := ⟨⟨_, Tryz.underlying276, by kernel_rfl⟩, by kernel_rfl⟩
theorem ty277 : ROk Tryz.prog 277 ⟨.func, 1, 8, .nilFunc⟩ := ⟨⟨_, _, _, Tryz.underlying277⟩, by kernel_rfl⟩
theorem ty278 : ROk Tryz.prog 278 ⟨.func, 1, 8, .nilFunc⟩ := ⟨⟨_, _, _, Tryz.underlying278⟩, by kernel_rfl⟩
theorem ty279 : ROk Tryz.prog 279 ⟨.func, 1, 8, .nilFunc⟩ := ⟨⟨_, _, _, Tryz.underlying279⟩, by kernel_rfl⟩
theorem ty280 : ROk Tryz.prog 280 ⟨.func, 1, 8, .nilFunc⟩ := ⟨⟨_, _, _, Tryz.underlying280⟩, by kernel_rfl⟩
theorem ty281 : ROk Tryz.prog 281 ⟨.func, 1, 8, .nilFunc⟩ := ⟨⟨_, _, _, Tryz.underlying281⟩, by kernel_rfl⟩
theorem ty282 : ROk Tryz.prog 282 ⟨.func, 1, 8, .nilFunc⟩ := ⟨⟨_, _, _, Tryz.underlying282⟩, by kernel_rfl⟩
theorem ty283 : ROk Tryz.prog 283 ⟨.func, 1, 8, .nilFunc⟩ := ⟨⟨_, _, _, Tryz.underlying283⟩, by kernel_rfl⟩
theorem ty284 : ROk Tryz.prog 284 ⟨.func, 1, 8, .nilFunc⟩ := ⟨⟨_, _, _, Tryz.underlying284⟩, by kernel_rfl⟩
theorem ty285 : ROk Tryz.prog 285 ⟨.map 9 43, 1, 8, .map none⟩ := ⟨Tryz.underlying285, by kernel_rfl⟩
theorem ty286 : ROk Tryz.prog 286 ⟨.func, 1, 8, .nilFunc⟩ := ⟨⟨_, _, _, Tryz.underlying286⟩, by kernel_rfl⟩
theorem ty287 : ROk Tryz.prog 287 ⟨.int .i64, 1, 8, .int .i64 0⟩ := ⟨Tryz.underlying287, by kernel_rfl⟩
theorem ty289 : ROk Tryz.prog 289 ⟨.func, 1, 8, .nilFunc⟩ := ⟨⟨_, _, _, Tryz.underlying289⟩, by kernel_rfl⟩
theorem ty290 : ROk Tryz.prog 290 ⟨.func, 1, 8, .nilFunc⟩ := ⟨⟨_, _, _, Tryz.underlying290⟩, by kernel_rfl⟩
theorem ty291 : ROk Tryz.prog 291 ⟨.func, 1, 8, .nilFunc⟩ := ⟨⟨_, _, _, Tryz.underlying291⟩, by kernel_rfl⟩
theorem ty292 : ROk Tryz.prog 292 ⟨.func, 1, 8, .nilFunc⟩ := ⟨⟨_, _, _, Tryz.underlying292⟩, by kernel_rfl⟩
theorem ty293 : ROk Tryz.prog 293 ⟨.func, 1, 8, .nilFunc⟩ := ⟨⟨_, _, _, Tryz.underlying293⟩, by kernel_rfl⟩
theorem ty294 : ROk Tryz.prog 294 ⟨.func, 1, 8, .nilFunc⟩ := ⟨⟨_, _, _, Tryz.underlying294⟩, by kernel_rfl⟩
theorem ty295 : ROk Tryz.prog 295 ⟨.func, 1, 8, .nilFunc⟩ := ⟨⟨_, _, _, Tryz.underlying295⟩, by kernel_rfl⟩
theorem ty296 : ROk Tryz.prog 296 ⟨.func, 1, 8, .nilFunc⟩ := ⟨⟨_, _, _, Tryz.underlying296⟩, by kernel_rfl⟩
theorem ty297 : ROk Tryz.prog 297 ⟨.func, 1, 8, .nilFunc⟩ := ⟨⟨_, _, _, Tryz.underlying297⟩, by kernel_rfl⟩
theorem ty298 : ROk Tryz.prog 298 ⟨.func, 1, 8, .nilFunc⟩ := ⟨⟨_, _, _, Tryz.underlying298⟩, by kernel_rfl⟩
theorem ty299 : ROk Tryz.prog 299 ⟨.func, 1, 8, .nilFunc⟩ := ⟨⟨_, _, _, Tryz.underlying299⟩, by kernel_rfl⟩
theorem ty300 : ROk Tryz.prog 300 ⟨.func, 1, 8, .nilFunc⟩ := ⟨⟨_, _, _, Tryz.underlying300⟩, by kernel_rfl⟩
theorem ty301 : ROk Tryz.prog 301 ⟨.arr 256 5, 256, 256, .agg #[.int .u8 0, .int .u8 0, .int .u8 0, .int .u8 0, .int .u8 0, .int .u8 0, .int .u8 0, .int .u8 0, .int .u8 0, .int .u8 0, .int .u8 0, .int .u8 0, .int .u8 0, .int .u8 0, .int .u8 0, .int .u8 0, .int .u8 0, .int .u8 0, .int .u8 0, .int .u8 0, .int .u8 0, .int .u8 0, .int .u8 0, .int .u8 0, .int .u8 0, .int .u8 0, .int .u8 0, .int .u8 0, .int .u8 0, .int .u8 0, .int .u8 0, .int .u8 0, .int .u8 0, .int .u8 0, .int .u8 0, .int .u8 0, .int .u8 0, .int .u8 0, .int .u8 0, .int .u8 0, .int .u8 0, .int .u8 0, .int .u8 0, .int .u8 0, .int .u8 0, .int .u8 0, .int .u8 0, .int .u8 0, .int .u8 0, .int .u8 0, .int .u8 0, .int .u8 0, .int .u8 0, .int .u8 0, .int .u8 0, .int .u8 0, .int .u8 0, .int .u8 0, .int .u8 0, .int .u8 0, .int .u8 0, .int .u8 0, .int .u8 0, .int .u8 0, .int .u8 0, .int .u8 0, .int .u8 0, .int .u8 0, .int .u8 0, .int .u8 0, .int .u8 0, .int .u8 0, .int .u8 0, .int .u8 0, .int .u8 0, .int .u8 0, .int .u8 0, .int .u8 0, .int .u8 0, .int .u8 0, .int .u8 0, .int .u8 0, .int .u8 0, .int .u8 0, .int .u8 0, .int .u8 0, .int .u8 0, .int .u8 0, .int .u8 0, .int .u8 0, .int .u8 0, .int .u8 0, .int .u8 0, .int .u8 0, .int .u8 0, .int .u8 0, .int .u8 0, .int .u8 0, .int .u8 0, .int .u8 0, .int .u8 0, .int .u8 0, .int .u8 0, .int .u8 0, .int .u8 0, .int .u8 0, .int .u8 0, .int .u8 0, .int .u8 0, .int .u8 0, .int .u8 0, .int .u8 0, .int .u8 0, .int .u8 0, .int .u8 0, .int .u8 0, .int .u8 0, .int .u8 0, .int .u8 0, .int .u8 0, .int .u8 0, .int .u8 0, .int .u8 0, .int .u8 0, .int .u8 0, .int .u8 0, .int .u8 0, .int .u8 0, .int .u8 0, .int .u8 0, .int .u8 0, .int .u8 0, .int .u8 0, .int .u8 0, .int .u8 0, .int .u8 0, .int .u8 0, .int .u8 0, .int .u8 0, .int .u8 0, .int .u8 0, .int .u8 0, .int .u8 0, .int .u8 0, .int .u8 0, .int .u8 0, .int .u8 0, .int .u8 0, .int .u8 0, .int .u8 0, .int .u8 0, .int .u8 0, .int .u8 0, .int .u8 0, .int .u8 0, .int .u8 0, .int .u8 0, .int .u8 0, .int .u8 0, .int .u8 0, .int .u8 0, .int .u8 0, .int .u8 0, .int .u8 0, .int .u8 0, .int .u8 0, .int .u8 0, .int .u8 0, .int .u8 0, .int .u8 0, .int .u8 0, .int .u8 0, .int .u8 0, .int .u8 0, .int .u8 0, .int .u8 0, .int .u8 0, .int .u8 0, .int .u8 0, .int .u8 0, .int .u8 0, .int .u8 0, .int .u8 0, .int .u8 0, .int .u8 0, .int .u8 0, .int .u8 0, .int .u8 0, .int .u8 0, .int .u8 0, .int .u8 0, .int .u8 0, .int .u8 0, .int .u8 0, .int .u8 0, .int .u8 0, .int .u8 0, .int .u8 0, .int .u8 0, .int .u8 0, .int .u8 0, .int .u8 0, .int .u8 0, .int .u8 0, .int .u8 0, .int .u8 0, .int .u8 0, .int .u8 0, .int .u8 0, .int .u8 0, .int .u8 0, .int .u8 0, .int .u8 0, .int .u8 0, .int .u8 0, .int .u8 0, .int .u8 0, .int .u8 0, .int .u8 0, .int .u8 0, .int .u8 0, .int .u8 0, .int .u8 0, .int .u8 0, .int .u8 0, .int .u8 0, .int .u8 0, .int .u8 0, .int .u8 0, .int .u8 0, .int .u8 0, .int .u8 0, .int .u8 0, .int .u8 0, .int .u8 0, .int .u8 0, .int .u8 0, .int .u8 0, .int .u8 0, .int .u8 0, .int .u8 0, .int .u8 0, .int .u8 0, .int .u8 0, .int .u8 0, .int .u8 0, .int .u8 0, .int .u8 0, .int .u8 0, .int .u8 0, .int .u8 0, .int .u8 0, .int .u8 0, .int .u8 0, .int .u8 0, .int .u8 0]⟩ := ⟨Tryz.underlying301, by kernel_rfl⟩
theorem ty302 : ROk Tryz.prog 302 ⟨.stru [(5, 0, 1), (5, 1, 1)], 2, 2, .agg #[.int .u8 0, .int .u8 0]⟩ := ⟨⟨_, Tryz.underlying302, by kernel_rfl⟩, by kernel_rfl⟩
theorem ty303 : ROk Tryz.prog 303 ⟨.stru [(5, 0, 1), (5, 1, 1)], 2, 2, .agg #[.int .u8 0, .int .u8 0]⟩ := ⟨⟨_, Tryz.underlying303, by kernel_rfl⟩, by kernel_rfl⟩
theorem ty304 : ROk Tryz.prog 304 ⟨.arr 16 303, 32, 32, .agg #[.int .u8 0, .int .u8 0, .int .u8 0, .int .u8 0, .int .u8 0, .int .u8 0, .int .u8 0, .int .u8 0, .int .u8 0, .int .u8 0, .int .u8 0, .int .u8 0, .int .u8 0, .int .u8 0, .int .u8 0, .int .u8 0, .int .u8 0, .int .u8 0, .int .u8 0, .int .u8 0, .int .u8 0, .int .u8 0, .int .u8 0, .int .u8 0, .int .u8 0, .int .u8 0, .int .u8 0, .int .u8 0, .int .u8 0, .int .u8 0, .int .u8 0, .int .u8 0]⟩ := ⟨Tryz.underlying304, by kernel_rfl⟩
theorem ty305 : ROk Tryz.prog 305 ⟨.func, 1, 8, .nilFunc⟩ := ⟨⟨_, _, _, Tryz.underlying305⟩, by kernel_rfl⟩
theorem ty306 : ROk Tryz.prog 306 ⟨.func, 1, 8, .nilFunc⟩ := ⟨⟨_, _, _, Tryz.underlying306⟩, by kernel_rfl⟩
theorem ty307 : ROk Tryz.prog 307 ⟨.func, 1, 8, .nilFunc⟩ := ⟨⟨_, _, _, Tryz.underlying307⟩, by kernel_rfl⟩
theorem ty308 : ROk Tryz.prog 308 ⟨.func, 1, 8, .nilFunc⟩ := ⟨⟨_, _, _, Tryz.underlying308⟩, by kernel_rfl⟩
theorem ty309 : ROk Tryz.prog 309 ⟨.func, 1, 8, .nilFunc⟩ := ⟨⟨_, _, _, Tryz.underlying309⟩, by kernel_rfl⟩
theorem ty310 : ROk Tryz.prog 310 ⟨.func, 1, 8, .nilFunc⟩ := ⟨⟨_, _, _, Tryz.underlying310⟩, by kernel_rfl⟩
theorem ty311 : ROk Tryz.prog 311 ⟨.int .u64, 1, 8, .int .u64 0⟩ := ⟨Tryz.underlying311, by kernel_rfl⟩
theorem ty312 : ROk Tryz.prog 312 ⟨.func, 1, 8, .nilFunc⟩ := ⟨⟨_, _, _, Tryz.underlying312⟩, by kernel_rfl⟩
theorem ty313 : ROk Tryz.prog 313 ⟨.func, 1, 8, .nilFunc⟩ := ⟨⟨_, _, _, Tryz.underlying313⟩, by kernel_rfl⟩
theorem ty314 : ROk Tryz.prog 314 ⟨.ptr 3, 1, 8, .pointer none⟩ := ⟨Tryz.underlying314, by kernel_rfl⟩
theorem ty315 : ROk Tryz.prog 315 ⟨.func, 1, 8, .nilFunc⟩ := ⟨⟨_, _, _, Tryz.underlying315⟩, by kernel_rfl⟩
theorem ty316 : ROk Tryz.prog 316 ⟨.func, 1, 8, .nilFunc⟩ := ⟨⟨_, _, _, Tryz.underlying316⟩, by kernel_rfl⟩
theorem ty317 : ROk Tryz.prog 317 ⟨.func, 1, 8, .nilFunc⟩ := ⟨⟨_, _, _, Tryz.underlying317⟩, by kernel_rfl⟩
theorem ty318 : ROk Tryz.prog 318 ⟨.func, 1, 8, .nilFunc⟩ := ⟨⟨_, _, _, Tryz.underlying318⟩, by kernel_rfl⟩
theorem ty319 : ROk Tryz.prog 319 ⟨.func, 1, 8, .nilFunc⟩ := ⟨⟨_, _, _, Tryz.underlying319⟩, by kernel_rfl⟩
theorem ty321 : ROk Tryz.prog 321 ⟨.func, 1, 8, .nilFunc⟩ := ⟨⟨_, _, _, Tryz.underlying321⟩, by kernel_rfl⟩
theorem ty322 : ROk Tryz.prog 322 ⟨.ptr 172, 1, 8, .pointer none⟩ := ⟨Tryz.underlying322, by kernel_rfl⟩
theorem ty323 : ROk Tryz.prog 323 ⟨.func, 1, 8, .nilFunc⟩ := ⟨⟨_, _, _, Tryz.underlying323⟩, by kernel_rfl⟩
theorem ty324 : ROk Tryz.prog 324 ⟨.func, 1, 8, .nilFunc⟩ := ⟨⟨_, _, _, Tryz.underlying324⟩, by kernel_rfl⟩
theorem ty325 : ROk Tryz.prog 325 ⟨.func, 1, 8, .nilFunc⟩ := ⟨⟨_, _, _, Tryz.underlying325⟩, by kernel_rfl⟩
theorem ty326 : ROk Tryz.prog 326 ⟨.ptr 311, 1, 8, .pointer none⟩ := ⟨Tryz.underlying326, by kernel_rfl⟩
theorem ty328 : ROk Tryz.prog 328 ⟨.func, 1, 8, .nilFunc⟩ := ⟨⟨_, _, _, Tryz.underlying328⟩, by kernel_rfl⟩
theorem ty329 : ROk Tryz.prog 329 ⟨.func, 1, 8, .nilFunc⟩ := ⟨⟨_, _, _, Tryz.underlying329⟩, by kernel_rfl⟩
theorem ty330 : ROk Tryz.prog 330 ⟨.func, 1, 8, .nilFunc⟩ := ⟨⟨_, _, _, Tryz.underlying330⟩, by kernel_rfl⟩
theorem ty331 : ROk Tryz.prog 331 ⟨.func, 1, 8, .nilFunc⟩ := ⟨⟨_, _, _, Tryz.underlying331⟩, by kernel_rfl⟩
theorem ty332 : ROk Tryz.prog 332 ⟨.func, 1, 8, .nilFunc⟩ := ⟨⟨_, _, _, Tryz.underlying332⟩, by kernel_rfl⟩
theorem ty333 : ROk Tryz.prog 333 ⟨.stru [(17, 0, 1), (17, 1, 1), (17, 2, 1), (9, 3, 1)], 4, 40, .agg #[.pointer none, .pointer none, .pointer none, .string ⟨#[]⟩]⟩ := ⟨⟨_, Tryz.underlying333, by kernel_rfl⟩, by kernel_rfl⟩
theorem ty334 : ROk Tryz.prog 334 ⟨.stru [(17, 0, 1), (17, 1, 1), (17, 2, 1), (9, 3, 1)], 4, 40, .agg #[.pointer none, .pointer none, .pointer none, .string ⟨#[]⟩]⟩ := ⟨⟨_, Tryz.underlying334, by kernel_rfl⟩, by kernel_rfl⟩
theorem ty335 : ROk Tryz.prog 335 ⟨.arr 0 16, 0, 0, .agg #[]⟩ := ⟨Tryz.underlying335, by kernel_rfl⟩
theorem ty336 : ROk Tryz.prog 336 ⟨.stru [(335, 0, 0)], 0, 0, .agg #[]⟩ := ⟨⟨_, Tryz.underlying336, by kernel_rfl⟩, by kernel_rfl⟩
theorem ty337 : ROk Tryz.prog 337 ⟨.stru [(335, 0, 0)], 0, 0, .agg #[]⟩ := ⟨⟨_, Tryz.underlying337, by kernel_rfl⟩, by kernel_rfl⟩
theorem ty338 : ROk Tryz.prog 338 ⟨.int .u8, 1, 1, .int .u8 0⟩ := ⟨Tryz.underlying338, by kernel_rfl⟩
theorem ty339 : ROk Tryz.prog 339 ⟨.int .u8, 1, 1, .int .u8 0⟩ := ⟨Tryz.underlying339, by kernel_rfl⟩
theorem ty340 : ROk Tryz.prog 340 ⟨.func, 1, 8, .nilFunc⟩ := ⟨⟨_, _, _, Tryz.underlying340⟩, by kernel_rfl⟩
theorem ty341 : ROk Tryz.prog 341 ⟨.ptr 5, 1, 8, .pointer none⟩ := ⟨Tryz.underlying341, by kernel_rfl⟩
theorem ty342 : ROk Tryz.prog 342 ⟨.int .i32, 1, 4, .int .i32 0⟩ := ⟨Tryz.underlying342, by kernel_rfl⟩
theorem ty343 : ROk Tryz.prog 343 ⟨.int .i32, 1, 4, .int .i32 0⟩ := ⟨Tryz.underlying343, by kernel_rfl⟩
theorem ty344 : ROk Tryz.prog 344 ⟨.stru [(12, 0, 1), (12, 1, 1), (65, 2, 1), (338, 3, 1), (5, 4, 1), (5, 5, 1), (339, 6, 1), (340, 7, 1), (341, 8, 1), (342, 9, 1), (343, 10, 1)], 11, 48, .agg #[.int .u64 0, .int .u64 0, .int .u32 0, .int .u8 0, .int .u8 0, .int .u8 0, .int .u8 0, .nilFunc, .pointer none, .int .i32 0, .int .i32 0]⟩ := ⟨⟨_, Tryz.underlying344, by kernel_rfl⟩, by kernel_rfl⟩
theorem ty345 : ROk Tryz.prog 345 ⟨.stru [(12, 0, 1), (12, 1, 1), (65, 2, 1), (338, 3, 1), (5, 4, 1), (5, 5, 1), (339, 6, 1), (340, 7, 1), (341, 8, 1), (342, 9, 1), (343, 10, 1)], 11, 48, .agg #[.int .u64 0, .int .u64 0, .int .u32 0, .int .u8 0, .int .u8 0, .int .u8 0, .int .u8 0, .nilFunc, .pointer none, .int .i32 0, .int .i32 0]⟩ := ⟨⟨_, Tryz.underlying345, by kernel_rfl⟩, by kernel_rfl⟩
theorem ty346 : ROk Tryz.prog 346 ⟨.stru [(9, 0, 1), (53, 1, 4)], 5, 56, .agg #[.string ⟨#[]⟩, .int .i64 0, .int .i64 0, .float .f64 0, .string ⟨#[]⟩]⟩ := ⟨⟨_, Tryz.underlying346, by kernel_rfl⟩, by kernel_rfl⟩
theorem ty347 : ROk Tryz.prog 347 ⟨.stru [(9, 0, 1), (53, 1, 4)], 5, 56, .agg #[.string ⟨#[]⟩, .int .i64 0, .int .i64 0, .float .f64 0, .string ⟨#[]⟩]⟩ := ⟨⟨_, Tryz.underlying347, by kernel_rfl⟩, by kernel_rfl⟩
def T : Ty := .node (.node (.node (.node (.node (.node (.node (.node (.node (.leaf) 1 ⟨.func, 1, 8, .nilFunc⟩ (.leaf)) 2 ⟨.int .i64, 1, 8, .int .i64 0⟩ (.leaf)) 3 ⟨.int .i64, 1, 8, .int .i64 0⟩ (.node (.node (.leaf) 4 ⟨.bool, 1, 1, .bool false⟩ (.leaf)) 5 ⟨.int .u8, 1, 1, .int .u8 0⟩ (.leaf))) 6 ⟨.int .u8, 1, 1, .int .u8 0⟩ (.node (.node (.node (.leaf) 7 ⟨.stru [(2, 0, 1), (3, 1, 1), (4, 2, 1), (6, 3, 1)], 4, 24, .agg #[.int .i64 0, .int .i64 0, .bool false, .int .u8 0]⟩ (.leaf)) 8 ⟨.stru [(2, 0, 1), (3, 1, 1), (4, 2, 1), (6, 3, 1)], 4, 24, .agg #[.int .i64 0, .int .i64 0, .bool false, .int .u8 0]⟩ (.leaf)) 9 ⟨.str, 1, 16, .string ⟨#[]⟩⟩ (.node (.leaf) 10 ⟨.str, 1, 16, .string ⟨#[]⟩⟩ (.leaf)))) 11 ⟨.str, 1, 16, .string ⟨#[]⟩⟩ (.node (.node (.node (.node (.leaf) 12 ⟨.int .u64, 1, 8, .int .u64 0⟩ (.leaf)) 13 ⟨.stru [(9, 0, 1), (12, 1, 1)], 2, 24, .agg #[.string ⟨#[]⟩, .int .u64 0]⟩ (.leaf)) 14 ⟨.stru [(9, 0, 1), (12, 1, 1)], 2, 24, .agg #[.string ⟨#[]⟩, .int .u64 0]⟩ (.node (.leaf) 15 ⟨.ptr 334, 1, 8, .pointer none⟩ (.leaf))) 16 ⟨.ptr 337, 1, 8, .pointer none⟩ (.node (.node (.node (.leaf) 17 ⟨.ptr 345, 1, 8, .pointer none⟩ (.leaf)) 18 ⟨.stru [(17, 0, 1)], 1, 8, .agg #[.pointer none]⟩ (.leaf)) 19 ⟨.stru [(17, 0, 1)], 1, 8, .agg #[.pointer none]⟩ (.node (.leaf) 20 ⟨.iface, 1, 16, .nilIface⟩ (.leaf))))) 21 ⟨.int .i32, 1, 4, .int .i32 0⟩ (.node (.node (.node (.node (.node (.leaf) 22 ⟨.sli 65, 1, 24, .slice none 0 0⟩ (.leaf)) 23 ⟨.func, 1, 8, .nilFunc⟩ (.leaf)) 24 ⟨.ptr 147, 1, 8, .pointer none⟩ (.node (.node (.leaf) 25 ⟨.ptr 50, 1, 8, .pointer none⟩ (.leaf)) 27 ⟨.func, 1, 8, .nilFunc⟩ (.leaf))) 28 ⟨.int .u64, 1, 8, .int .u64 0⟩ (.node (.node (.node (.leaf) 29 ⟨.stru [(28, 0, 1), (28, 1, 1)], 2, 16, .agg #[.int .u64 0, .int .u64 0]⟩ (.leaf)) 30 ⟨.stru [(28, 0, 1), (28, 1, 1)], 2, 16, .agg #[.int .u64 0, .int .u64 0]⟩ (.leaf)) 31 ⟨.stru [(30, 0, 2), (4, 2, 1)], 3, 24, .agg #[.int .u64 0, .int .u64 0, .bool false]⟩ (.node (.leaf) 32 ⟨.stru [(30, 0, 2), (4, 2, 1)], 3, 24, .agg #[.int .u64 0, .int .u64 0, .bool false]⟩ (.leaf)))) 34 ⟨.func, 1, 8, .nilFunc⟩ (.node (.node (.node (.node (.leaf) 35 ⟨.func, 1, 8, .nilFunc⟩ (.leaf)) 36 ⟨.func, 1, 8, .nilFunc⟩ (.leaf)) 37 ⟨.sli 30, 1, 24, .slice none 0 0⟩ (.node (.leaf) 38 ⟨.func, 1, 8, .nilFunc⟩ (.leaf))) 40 ⟨.func, 1, 8, .nilFunc⟩ (.node (.node (.node (.leaf) 41 ⟨.func, 1, 8, .nilFunc⟩ (.leaf)) 42 ⟨.func, 1, 8, .nilFunc⟩ (.leaf)) 43 ⟨.sli 55, 1, 24, .slice none 0 0⟩ (.node (.leaf) 44 ⟨.sli 193, 1, 24, .slice none 0 0⟩ (.leaf)))))) 45 ⟨.sli 122, 1, 24, .slice none 0 0⟩ (.node (.node (.node (.node (.node (.node (.leaf) 46 ⟨.sli 167, 1, 24, .slice none 0 0⟩ (.leaf)) 47 ⟨.ptr 162, 1, 8, .pointer none⟩ (.leaf)) 48 ⟨.ptr 134, 1, 8, .pointer none⟩ (.node (.node (.leaf) 49 ⟨.stru [(43, 0, 1), (44, 1, 1), (45, 2, 1), (46, 3, 1), (47, 4, 1), (48, 5, 1), (43, 6, 1), (46, 7, 1), (43, 8, 1)], 9, 184, .agg #[.slice none 0 0, .slice none 0 0, .slice none 0 0, .slice none 0 0, .pointer none, .pointer none, .slice none 0 0, .slice none 0 0, .slice none 0 0]⟩ (.leaf)) 50 ⟨.stru [(43, 0, 1), (44, 1, 1), (45, 2, 1), (46, 3, 1), (47, 4, 1), (48, 5, 1), (43, 6, 1), (46, 7, 1), (43, 8, 1)], 9, 184, .agg #[.slice none 0 0, .slice none 0 0, .slice none 0 0, .slice none 0 0, .pointer none, .pointer none, .slice none 0 0, .slice none 0 0, .slice none 0 0]⟩ (.leaf))) 51 ⟨.float .f64, 1, 8, .float .f64 0⟩ (.node (.node (.node (.leaf) 52 ⟨.stru [(3, 0, 1), (2, 1, 1), (51, 2, 1), (9, 3, 1)], 4, 40, .agg #[.int .i64 0, .int .i64 0, .float .f64 0, .string ⟨#[]⟩]⟩ (.leaf)) 53 ⟨.stru [(3, 0, 1), (2, 1, 1), (51, 2, 1), (9, 3, 1)], 4, 40, .agg #[.int .i64 0, .int .i64 0, .float .f64 0, .string ⟨#[]⟩]⟩ (.leaf)) 54 ⟨.stru [(30, 0, 2), (3, 2, 1), (28, 3, 1), (30, 4, 2), (30, 6, 2), (9, 8, 1), (53, 9, 4), (9, 13, 1), (30, 14, 2), (32, 16, 3), (32, 19, 3)], 22, 200, .agg #[.int .u64 0, .int .u64 0, .int .i64 0, .int .u64 0, .int .u64 0, .int .u64 0, .int .u64 0, .int .u64 0, .string ⟨#[]⟩, .int .i64 0, .int .i64 0, .float .f64 0, .string ⟨#[]⟩, .string ⟨#[]⟩, .int .u64 0, .int .u64 0, .int .u64 0, .int .u64 0, .bool false, .int .u64 0, .int .u64 0, .bool false]⟩ (.node (.leaf) 55 ⟨.stru [(30, 0, 2), (3, 2, 1), (28, 3, 1), (30, 4, 2), (30, 6, 2), (9, 8, 1), (53, 9, 4), (9, 13, 1), (30, 14, 2), (32, 16, 3), (32, 19, 3)], 22, 200, .agg #[.int .u64 0, .int .u64 0, .int .i64 0, .int .u64 0, .int .u64 0, .int .u64 0, .int .u64 0, .int .u64 0, .string ⟨#[]⟩, .int .i64 0, .int .i64 0, .float .f64 0, .string ⟨#[]⟩, .string ⟨#[]⟩, .int .u64 0, .int .u64 0, .int .u64 0, .int .u64 0, .bool false, .int .u64 0, .int .u64 0, .bool false]⟩ (.leaf)))) 56 ⟨.func, 1, 8, .nilFunc⟩ (.node (.node (.node (.node (.leaf) 57 ⟨.stru [(43, 0, 1), (45, 1, 1)], 2, 48, .agg #[.slice none 0 0, .slice none 0 0]⟩ (.leaf)) 58 ⟨.stru [(43, 0, 1), (45, 1, 1)], 2, 48, .agg #[.slice none 0 0, .slice none 0 0]⟩ (.leaf)) 60 ⟨.func, 1, 8, .nilFunc⟩ (.node (.leaf) 61 ⟨.sli 9, 1, 24, .slice none 0 0⟩ (.leaf))) 62 ⟨.stru [(3, 0, 1), (3, 1, 1), (3, 2, 1), (9, 3, 1), (53, 4, 4), (9, 8, 1), (61, 9, 1)], 10, 120, .agg #[.int .i64 0, .int .i64 0, .int .i64 0, .string ⟨#[]⟩, .int .i64 0, .int .i64 0, .float .f64 0, .string ⟨#[]⟩, .string ⟨#[]⟩, .slice none 0 0]⟩ (.node (.node (.node (.leaf) 63 ⟨.stru [(3, 0, 1), (3, 1, 1), (3, 2, 1), (9, 3, 1), (53, 4, 4), (9, 8, 1), (61, 9, 1)], 10, 120, .agg #[.int .i64 0, .int .i64 0, .int .i64 0, .string ⟨#[]⟩, .int .i64 0, .int .i64 0, .float .f64 0, .string ⟨#[]⟩, .string ⟨#[]⟩, .slice none 0 0]⟩ (.leaf)) 64 ⟨.func, 1, 8, .nilFunc⟩ (.leaf)) 65 ⟨.int .u32, 1, 4, .int .u32 0⟩ (.node (.leaf) 66 ⟨.func, 1, 8, .nilFunc⟩ (.leaf))))) 67 ⟨.int .i64, 1, 8, .int .i64 0⟩ (.node (.node (.node (.node (.node (.leaf) 69 ⟨.func, 1, 8, .nilFunc⟩ (.leaf)) 70 ⟨.func, 1, 8, .nilFunc⟩ (.leaf)) 71 ⟨.func, 1, 8, .nilFunc⟩ (.node (.leaf) 72 ⟨.func, 1, 8, .nilFunc⟩ (.leaf))) 73 ⟨.sli 5, 1, 24, .slice none 0 0⟩ (.node (.node (.node (.leaf) 74 ⟨.func, 1, 8, .nilFunc⟩ (.leaf)) 75 ⟨.stru [(73, 0, 1)], 1, 24, .agg #[.slice none 0 0]⟩ (.leaf)) 76 ⟨.stru [(73, 0, 1)], 1, 24, .agg #[.slice none 0 0]⟩ (.node (.leaf) 77 ⟨.func, 1, 8, .nilFunc⟩ (.leaf)))) 78 ⟨.ptr 76, 1, 8, .pointer none⟩ (.node (.node (.node (.node (.leaf) 79 ⟨.func, 1, 8, .nilFunc⟩ (.leaf)) 80 ⟨.ptr 153, 1, 8, .pointer none⟩ (.leaf)) 81 ⟨.func, 1, 8, .nilFunc⟩ (.node (.leaf) 82 ⟨.func, 1, 8, .nilFunc⟩ (.leaf))) 83 ⟨.func, 1, 8, .nilFunc⟩ (.node (.node (.node (.leaf) 84 ⟨.func, 1, 8, .nilFunc⟩ (.leaf)) 85 ⟨.func, 1, 8, .nilFunc⟩ (.leaf)) 86 ⟨.func, 1, 8, .nilFunc⟩ (.node (.leaf) 87 ⟨.func, 1, 8, .nilFunc⟩ (.leaf))))))) 88 ⟨.ptr 90, 1, 8, .pointer none⟩ (.node (.node (.node (.node (.node (.node (.node (.leaf) 89 ⟨.stru [(73, 0, 1), (3, 1, 1)], 2, 32, .agg #[.slice none 0 0, .int .i64 0]⟩ (.leaf)) 90 ⟨.stru [(73, 0, 1), (3, 1, 1)], 2, 32, .agg #[.slice none 0 0, .int .i64 0]⟩ (.leaf)) 91 ⟨.func, 1, 8, .nilFunc⟩ (.node (.node (.leaf) 92 ⟨.func, 1, 8, .nilFunc⟩ (.leaf)) 93 ⟨.func, 1, 8, .nilFunc⟩ (.leaf))) 94 ⟨.func, 1, 8, .nilFunc⟩ (.node (.node (.node (.leaf) 95 ⟨.sli 58, 1, 24, .slice none 0 0⟩ (.leaf)) 96 ⟨.sli 25, 1, 24, .slice none 0 0⟩ (.leaf)) 98 ⟨.func, 1, 8, .nilFunc⟩ (.node (.leaf) 99 ⟨.func, 1, 8, .nilFunc⟩ (.leaf)))) 100 ⟨.stru [(30, 0, 2), (30, 2, 2), (30, 4, 2)], 6, 48, .agg #[.int .u64 0, .int .u64 0, .int .u64 0, .int .u64 0, .int .u64 0, .int .u64 0]⟩ (.node (.node (.node (.node (.leaf) 101 ⟨.stru [(30, 0, 2), (30, 2, 2), (30, 4, 2)], 6, 48, .agg #[.int .u64 0, .int .u64 0, .int .u64 0, .int .u64 0, .int .u64 0, .int .u64 0]⟩ (.leaf)) 103 ⟨.func, 1, 8, .nilFunc⟩ (.leaf)) 104 ⟨.func, 1, 8, .nilFunc⟩ (.node (.leaf) 105 ⟨.ptr 175, 1, 8, .pointer none⟩ (.leaf))) 106 ⟨.func, 1, 8, .nilFunc⟩ (.node (.node (.node (.leaf) 107 ⟨.func, 1, 8, .nilFunc⟩ (.leaf)) 108 ⟨.func, 1, 8, .nilFunc⟩ (.leaf)) 109 ⟨.func, 1, 8, .nilFunc⟩ (.node (.leaf) 110 ⟨.func, 1, 8, .nilFunc⟩ (.leaf))))) 111 ⟨.func, 1, 8, .nilFunc⟩ (.node (.node (.node (.node (.node (.leaf) 112 ⟨.func, 1, 8, .nilFunc⟩ (.leaf)) 113 ⟨.func, 1, 8, .nilFunc⟩ (.leaf)) 114 ⟨.func, 1, 8, .nilFunc⟩ (.node (.node (.leaf) 116 ⟨.func, 1, 8, .nilFunc⟩ (.leaf)) 117 ⟨.func, 1, 8, .nilFunc⟩ (.leaf))) 118 ⟨.func, 1, 8, .nilFunc⟩ (.node (.node (.node (.leaf) 119 ⟨.func, 1, 8, .nilFunc⟩ (.leaf)) 120 ⟨.func, 1, 8, .nilFunc⟩ (.leaf)) 121 ⟨.stru [(28, 0, 1), (28, 1, 1), (28, 2, 1), (28, 3, 1)], 4, 32, .agg #[.int .u64 0, .int .u64 0, .int .u64 0, .int .u64 0]⟩ (.node (.leaf) 122 ⟨.stru [(28, 0, 1), (28, 1, 1), (28, 2, 1), (28, 3, 1)], 4, 32, .agg #[.int .u64 0, .int .u64 0, .int .u64 0, .int .u64 0]⟩ (.leaf)))) 123 ⟨.func, 1, 8, .nilFunc⟩ (.node (.node (.node (.node (.leaf) 124 ⟨.func, 1, 8, .nilFunc⟩ (.leaf)) 126 ⟨.func, 1, 8, .nilFunc⟩ (.leaf)) 127 ⟨.int .u64, 1, 8, .int .u64 0⟩ (.node (.leaf) 128 ⟨.sli 53, 1, 24, .slice none 0 0⟩ (.leaf))) 129 ⟨.func, 1, 8, .nilFunc⟩ (.node (.node (.node (.leaf) 130 ⟨.func, 1, 8, .nilFunc⟩ (.leaf)) 131 ⟨.func, 1, 8, .nilFunc⟩ (.leaf)) 132 ⟨.func, 1, 8, .nilFunc⟩ (.node (.leaf) 133 ⟨.stru [(43, 0, 1), (46, 1, 1)], 2, 48, .agg #[.slice none 0 0, .slice none 0 0]⟩ (.leaf)))))) 134 ⟨.stru [(43, 0, 1), (46, 1, 1)], 2, 48, .agg #[.slice none 0 0, .slice none 0 0]⟩ (.node (.node (.node (.node (.node (.node (.leaf) 136 ⟨.func, 1, 8, .nilFunc⟩ (.leaf)) 137 ⟨.func, 1, 8, .nilFunc⟩ (.leaf)) 138 ⟨.func, 1, 8, .nilFunc⟩ (.node (.node (.leaf) 139 ⟨.func, 1, 8, .nilFunc⟩ (.leaf)) 140 ⟨.func, 1, 8, .nilFunc⟩ (.leaf))) 141 ⟨.ptr 213, 1, 8, .pointer none⟩ (.node (.node (.node (.leaf) 142 ⟨.map 28 28, 1, 8, .map none⟩ (.leaf)) 143 ⟨.map 30 55, 1, 8, .map none⟩ (.leaf)) 144 ⟨.map 30 267, 1, 8, .map none⟩ (.node (.leaf) 145 ⟨.ptr 208, 1, 8, .pointer none⟩ (.leaf)))) 146 ⟨.stru [(141, 0, 1), (142, 1, 1), (45, 2, 1), (46, 3, 1), (143, 4, 1), (46, 5, 1), (105, 6, 1), (144, 7, 1), (43, 8, 1), (145, 9, 1), (46, 10, 1), (28, 11, 1)], 12, 176, .agg #[.pointer none, .map none, .slice none 0 0, .slice none 0 0, .map none, .slice none 0 0, .pointer none, .map none, .slice none 0 0, .pointer none, .slice none 0 0, .int .u64 0]⟩ (.node (.node (.node (.node (.leaf) 147 ⟨.stru [(141, 0, 1), (142, 1, 1), (45, 2, 1), (46, 3, 1), (143, 4, 1), (46, 5, 1), (105, 6, 1), (144, 7, 1), (43, 8, 1), (145, 9, 1), (46, 10, 1), (28, 11, 1)], 12, 176, .agg #[.pointer none, .map none, .slice none 0 0, .slice none 0 0, .map none, .slice none 0 0, .pointer none, .map none, .slice none 0 0, .pointer none, .slice none 0 0, .int .u64 0]⟩ (.leaf)) 148 ⟨.func, 1, 8, .nilFunc⟩ (.leaf)) 149 ⟨.func, 1, 8, .nilFunc⟩ (.node (.leaf) 150 ⟨.func, 1, 8, .nilFunc⟩ (.leaf))) 151 ⟨.func, 1, 8, .nilFunc⟩ (.node (.node (.node (.leaf) 152 ⟨.stru [(73, 0, 1), (67, 1, 1)], 2, 32, .agg #[.slice none 0 0, .int .i64 0]⟩ (.leaf)) 153 ⟨.stru [(73, 0, 1), (67, 1, 1)], 2, 32, .agg #[.slice none 0 0, .int .i64 0]⟩ (.leaf)) 154 ⟨.func, 1, 8, .nilFunc⟩ (.node (.leaf) 155 ⟨.func, 1, 8, .nilFunc⟩ (.leaf))))) 156 ⟨.func, 1, 8, .nilFunc⟩ (.node (.node (.node (.node (.node (.leaf) 157 ⟨.func, 1, 8, .nilFunc⟩ (.leaf)) 158 ⟨.sli 3, 1, 24, .slice none 0 0⟩ (.leaf)) 159 ⟨.func, 1, 8, .nilFunc⟩ (.node (.leaf) 160 ⟨.sli 164, 1, 24, .slice none 0 0⟩ (.leaf))) 161 ⟨.stru [(160, 0, 1), (158, 1, 1), (158, 2, 1)], 3, 72, .agg #[.slice none 0 0, .slice none 0 0, .slice none 0 0]⟩ (.node (.node (.node (.leaf) 162 ⟨.stru [(160, 0, 1), (158, 1, 1), (158, 2, 1)], 3, 72, .agg #[.slice none 0 0, .slice none 0 0, .slice none 0 0]⟩ (.leaf)) 163 ⟨.stru [(101, 0, 6), (3, 6, 1), (4, 7, 1), (158, 8, 1), (158, 9, 1)], 10, 112, .agg #[.int .u64 0, .int .u64 0, .int .u64 0, .int .u64 0, .int .u64 0, .int .u64 0, .int .i64 0, .bool false, .slice none 0 0, .slice none 0 0]⟩ (.leaf)) 164 ⟨.stru [(101, 0, 6), (3, 6, 1), (4, 7, 1), (158, 8, 1), (158, 9, 1)], 10, 112, .agg #[.int .u64 0, .int .u64 0, .int .u64 0, .int .u64 0, .int .u64 0, .int .u64 0, .int .i64 0, .bool false, .slice none 0 0, .slice none 0 0]⟩ (.node (.leaf) 165 ⟨.func, 1, 8, .nilFunc⟩ (.leaf)))) 166 ⟨.stru [(28, 0, 1), (28, 1, 1), (28, 2, 1)], 3, 24, .agg #[.int .u64 0, .int .u64 0, .int .u64 0]⟩ (.node (.node (.node (.node (.leaf) 167 ⟨.stru [(28, 0, 1), (28, 1, 1), (28, 2, 1)], 3, 24, .agg #[.int .u64 0, .int .u64 0, .int .u64 0]⟩ (.leaf)) 168 ⟨.func, 1, 8, .nilFunc⟩ (.leaf)) 169 ⟨.func, 1, 8, .nilFunc⟩ (.node (.leaf) 170 ⟨.func, 1, 8, .nilFunc⟩ (.leaf))) 171 ⟨.map 30 176, 1, 8, .map none⟩ (.node (.node (.node (.leaf) 172 ⟨.sli 176, 1, 24, .slice none 0 0⟩ (.leaf)) 173 ⟨.map 30 3, 1, 8, .map none⟩ (.leaf)) 174 ⟨.stru [(171, 0, 1), (172, 1, 1), (172, 2, 1), (173, 3, 1), (4, 4, 1)], 5, 72, .agg #[.map none, .slice none 0 0, .slice none 0 0, .map none, .bool false]⟩ (.node (.leaf) 175 ⟨.stru [(171, 0, 1), (172, 1, 1), (172, 2, 1), (173, 3, 1), (4, 4, 1)], 5, 72, .agg #[.map none, .slice none 0 0, .slice none 0 0, .map none, .bool false]⟩ (.leaf)))))))) 176 ⟨.ptr 178, 1, 8, .pointer none⟩ (.node (.node (.node (.node (.node (.node (.node (.node (.leaf) 177 ⟨.stru [(101, 0, 6), (176, 6, 1), (172, 7, 1), (172, 8, 1), (3, 9, 1)], 10, 112, .agg #[.int .u64 0, .int .u64 0, .int .u64 0, .int .u64 0, .int .u64 0, .int .u64 0, .pointer none, .slice none 0 0, .slice none 0 0, .int .i64 0]⟩ (.leaf)) 178 ⟨.stru [(101, 0, 6), (176, 6, 1), (172, 7, 1), (172, 8, 1), (3, 9, 1)], 10, 112, .agg #[.int .u64 0, .int .u64 0, .int .u64 0, .int .u64 0, .int .u64 0, .int .u64 0, .pointer none, .slice none 0 0, .slice none 0 0, .int .i64 0]⟩ (.leaf)) 179 ⟨.func, 1, 8, .nilFunc⟩ (.node (.node (.leaf) 180 ⟨.func, 1, 8, .nilFunc⟩ (.leaf)) 181 ⟨.func, 1, 8, .nilFunc⟩ (.leaf))) 182 ⟨.sli 21, 1, 24, .slice none 0 0⟩ (.node (.node (.node (.leaf) 184 ⟨.func, 1, 8, .nilFunc⟩ (.leaf)) 185 ⟨.func, 1, 8, .nilFunc⟩ (.leaf)) 186 ⟨.func, 1, 8, .nilFunc⟩ (.node (.leaf) 188 ⟨.func, 1, 8, .nilFunc⟩ (.leaf)))) 189 ⟨.func, 1, 8, .nilFunc⟩ (.node (.node (.node (.node (.leaf) 190 ⟨.func, 1, 8, .nilFunc⟩ (.leaf)) 191 ⟨.func, 1, 8, .nilFunc⟩ (.leaf)) 192 ⟨.func, 1, 8, .nilFunc⟩ (.node (.leaf) 193 ⟨.stru [(28, 0, 1), (28, 1, 1)], 2, 16, .agg #[.int .u64 0, .int .u64 0]⟩ (.leaf))) 194 ⟨.func, 1, 8, .nilFunc⟩ (.node (.node (.node (.leaf) 195 ⟨.func, 1, 8, .nilFunc⟩ (.leaf)) 196 ⟨.func, 1, 8, .nilFunc⟩ (.leaf)) 197 ⟨.func, 1, 8, .nilFunc⟩ (.node (.leaf) 198 ⟨.func, 1, 8, .nilFunc⟩ (.leaf))))) 199 ⟨.stru [(67, 0, 1)], 1, 8, .agg #[.int .i64 0]⟩ (.node (.node (.node (.node (.node (.leaf) 200 ⟨.stru [(67, 0, 1)], 1, 8, .agg #[.int .i64 0]⟩ (.leaf)) 201 ⟨.func, 1, 8, .nilFunc⟩ (.leaf)) 202 ⟨.func, 1, 8, .nilFunc⟩ (.node (.node (.leaf) 203 ⟨.func, 1, 8, .nilFunc⟩ (.leaf)) 204 ⟨.func, 1, 8, .nilFunc⟩ (.leaf))) 205 ⟨.func, 1, 8, .nilFunc⟩ (.node (.node (.node (.leaf) 206 ⟨.map 30 285, 1, 8, .map none⟩ (.leaf)) 207 ⟨.stru [(143, 0, 1), (206, 1, 1), (46, 2, 1)], 3, 40, .agg #[.map none, .map none, .slice none 0 0]⟩ (.leaf)) 208 ⟨.stru [(143, 0, 1), (206, 1, 1), (46, 2, 1)], 3, 40, .agg #[.map none, .map none, .slice none 0 0]⟩ (.node (.leaf) 209 ⟨.func, 1, 8, .nilFunc⟩ (.leaf)))) 210 ⟨.func, 1, 8, .nilFunc⟩ (.node (.node (.node (.node (.leaf) 211 ⟨.map 28 43, 1, 8, .map none⟩ (.leaf)) 212 ⟨.stru [(211, 0, 1), (43, 1, 1), (46, 2, 1)], 3, 56, .agg #[.map none, .slice none 0 0, .slice none 0 0]⟩ (.leaf)) 213 ⟨.stru [(211, 0, 1), (43, 1, 1), (46, 2, 1)], 3, 56, .agg #[.map none, .slice none 0 0, .slice none 0 0]⟩ (.node (.leaf) 214 ⟨.map 176 176, 1, 8, .map none⟩ (.leaf))) 215 ⟨.func, 1, 8, .nilFunc⟩ (.node (.node (.node (.leaf) 216 ⟨.func, 1, 8, .nilFunc⟩ (.leaf)) 217 ⟨.func, 1, 8, .nilFunc⟩ (.leaf)) 219 ⟨.func, 1, 8, .nilFunc⟩ (.node (.leaf) 220 ⟨.sli 28, 1, 24, .slice none 0 0⟩ (.leaf)))))) 221 ⟨.func, 1, 8, .nilFunc⟩ (.node (.node (.node (.node (.node (.node (.leaf) 222 ⟨.func, 1, 8, .nilFunc⟩ (.leaf)) 223 ⟨.func, 1, 8, .nilFunc⟩ (.leaf)) 224 ⟨.func, 1, 8, .nilFunc⟩ (.node (.node (.leaf) 225 ⟨.func, 1, 8, .nilFunc⟩ (.leaf)) 226 ⟨.func, 1, 8, .nilFunc⟩ (.leaf))) 227 ⟨.func, 1, 8, .nilFunc⟩ (.node (.node (.node (.leaf) 228 ⟨.func, 1, 8, .nilFunc⟩ (.leaf)) 229 ⟨.func, 1, 8, .nilFunc⟩ (.leaf)) 230 ⟨.func, 1, 8, .nilFunc⟩ (.node (.leaf) 231 ⟨.func, 1, 8, .nilFunc⟩ (.leaf)))) 232 ⟨.func, 1, 8, .nilFunc⟩ (.node (.node (.node (.node (.leaf) 233 ⟨.func, 1, 8, .nilFunc⟩ (.leaf)) 234 ⟨.func, 1, 8, .nilFunc⟩ (.leaf)) 235 ⟨.func, 1, 8, .nilFunc⟩ (.node (.leaf) 236 ⟨.func, 1, 8, .nilFunc⟩ (.leaf))) 237 ⟨.func, 1, 8, .nilFunc⟩ (.node (.node (.node (.leaf) 238 ⟨.func, 1, 8, .nilFunc⟩ (.leaf)) 239 ⟨.func, 1, 8, .nilFunc⟩ (.leaf)) 240 ⟨.func, 1, 8, .nilFunc⟩ (.node (.leaf) 241 ⟨.func, 1, 8, .nilFunc⟩ (.leaf))))) 242 ⟨.sli 45, 1, 24, .slice none 0 0⟩ (.node (.node (.node (.node (.node (.leaf) 243 ⟨.func, 1, 8, .nilFunc⟩ (.leaf)) 244 ⟨.func, 1, 8, .nilFunc⟩ (.leaf)) 245 ⟨.func, 1, 8, .nilFunc⟩ (.node (.leaf) 246 ⟨.func, 1, 8, .nilFunc⟩ (.leaf))) 247 ⟨.func, 1, 8, .nilFunc⟩ (.node (.node (.node (.leaf) 248 ⟨.func, 1, 8, .nilFunc⟩ (.leaf)) 249 ⟨.func, 1, 8, .nilFunc⟩ (.leaf)) 250 ⟨.func, 1, 8, .nilFunc⟩ (.node (.leaf) 251 ⟨.func, 1, 8, .nilFunc⟩ (.leaf)))) 252 ⟨.func, 1, 8, .nilFunc⟩ (.node (.node (.node (.node (.leaf) 253 ⟨.func, 1, 8, .nilFunc⟩ (.leaf)) 254 ⟨.func, 1, 8, .nilFunc⟩ (.leaf)) 255 ⟨.func, 1, 8, .nilFunc⟩ (.node (.leaf) 256 ⟨.func, 1, 8, .nilFunc⟩ (.leaf))) 257 ⟨.func, 1, 8, .nilFunc⟩ (.node (.node (.node (.leaf) 258 ⟨.func, 1, 8, .nilFunc⟩ (.leaf)) 259 ⟨.func, 1, 8, .nilFunc⟩ (.leaf)) 260 ⟨.func, 1, 8, .nilFunc⟩ (.node (.leaf) 261 ⟨.func, 1, 8, .nilFunc⟩ (.leaf))))))) 262 ⟨.sli 46, 1, 24, .slice none 0 0⟩ (.node (.node (.node (.node (.node (.node (.node (.leaf) 263 ⟨.func, 1, 8, .nilFunc⟩ (.leaf)) 264 ⟨.func, 1, 8, .nilFunc⟩ (.leaf)) 265 ⟨.sli 347, 1, 24, .slice none 0 0⟩ (.node (.node (.leaf) 266 ⟨.stru [(9, 0, 1), (4, 1, 1), (53, 2, 4), (265, 6, 1)], 7, 88, .agg #[.string ⟨#[]⟩, .bool false, .int .i64 0, .int .i64 0, .float .f64 0, .string ⟨#[]⟩, .slice none 0 0]⟩ (.leaf)) 267 ⟨.stru [(9, 0, 1), (4, 1, 1), (53, 2, 4), (265, 6, 1)], 7, 88, .agg #[.string ⟨#[]⟩, .bool false, .int .i64 0, .int .i64 0, .float .f64 0, .string ⟨#[]⟩, .slice none 0 0]⟩ (.leaf))) 268 ⟨.func, 1, 8, .nilFunc⟩ (.node (.node (.node (.leaf) 269 ⟨.func, 1, 8, .nilFunc⟩ (.leaf)) 270 ⟨.func, 1, 8, .nilFunc⟩ (.leaf)) 271 ⟨.func, 1, 8, .nilFunc⟩ (.node (.leaf) 272 ⟨.func, 1, 8, .nilFunc⟩ (.leaf)))) 273 ⟨.func, 1, 8, .nilFunc⟩ (.node (.node (.node (.node (.leaf) 274 ⟨.func, 1, 8, .nilFunc⟩ (.leaf)) 275 ⟨.stru [(67, 0, 1)], 1, 8, .agg #[.int .i64 0]⟩ (.leaf)) 276 ⟨.stru [(67, 0, 1)], 1, 8, .agg #[.int .i64 0]⟩ (.node (.leaf) 277 ⟨.func, 1, 8, .nilFunc⟩ (.leaf))) 278 ⟨.func, 1, 8, .nilFunc⟩ (.node (.node (.node (.leaf) 279 ⟨.func, 1, 8, .nilFunc⟩ (.leaf)) 280 ⟨.func, 1, 8, .nilFunc⟩ (.leaf)) 281 ⟨.func, 1, 8, .nilFunc⟩ (.node (.leaf) 282 ⟨.func, 1, 8, .nilFunc⟩ (.leaf))))) 283 ⟨.func, 1, 8, .nilFunc⟩ (.node (.node (.node (.node (.node (.leaf) 284 ⟨.func, 1, 8, .nilFunc⟩ (.leaf)) 285 ⟨.map 9 43, 1, 8, .map none⟩ (.leaf)) 286 ⟨.func, 1, 8, .nilFunc⟩ (.node (.node (.leaf) 287 ⟨.int .i64, 1, 8, .int .i64 0⟩ (.leaf)) 289 ⟨.func, 1, 8, .nilFunc⟩ (.leaf))) 290 ⟨.func, 1, 8, .nilFunc⟩ (.node (.node (.node (.leaf) 291 ⟨.func, 1, 8, .nilFunc⟩ (.leaf)) 292 ⟨.func, 1, 8, .nilFunc⟩ (.leaf)) 293 ⟨.func, 1, 8, .nilFunc⟩ (.node (.leaf) 294 ⟨.func, 1, 8, .nilFunc⟩ (.leaf)))) 295 ⟨.func, 1, 8, .nilFunc⟩ (.node (.node (.node (.node (.leaf) 296 ⟨.func, 1, 8, .nilFunc⟩ (.leaf)) 297 ⟨.func, 1, 8, .nilFunc⟩ (.leaf)) 298 ⟨.func, 1, 8, .nilFunc⟩ (.node (.leaf) 299 ⟨.func, 1, 8, .nilFunc⟩ (.leaf))) 300 ⟨.func, 1, 8, .nilFunc⟩ (.node (.node (.node (.leaf) 301 ⟨.arr 256 5, 256, 256, .agg #[.int .u8 0, .int .u8 0, .int .u8 0, .int .u8 0, .int .u8 0, .int .u8 0, .int .u8 0, .int .u8 0, .int .u8 0, .int .u8 0, .int .u8 0, .int .u8 0, .int .u8 0, .int .u8 0, .int .u8 0, .int .u8 0, .int .u8 0, .int .u8 0, .int .u8 0, .int .u8 0, .int .u8 0, .int .u8 0, .int .u8 0, .int .u8 0, .int .u8 0, .int .u8 0, .int .u8 0, .int .u8 0, .int .u8 0, .int .u8 0, .int .u8 0, .int .u8 0, .int .u8 0, .int .u8 0, .int .u8 0, .int .u8 0, .int .u8 0, .int .u8 0, .int .u8 0, .int .u8 0, .int .u8 0, .int .u8 0, .int .u8 0, .int .u8 0, .int .u8 0, .int .u8 0, .int .u8 0, .int .u8 0, .int .u8 0, .int .u8 0, .int .u8 0, .int .u8 0, .int .u8 0, .int .u8 0, .int .u8 0, .int .u8 0, .int .u8 0, .int .u8 0, .int .u8 0, .int .u8 0, .int .u8 0, .int .u8 0, .int .u8 0, .int .u8 0, .int .u8 0, .int .u8 0, .int .u8 0, .int .u8 0, .int .u8 0, .int .u8 0, .int .u8 0, .int .u8 0, .int .u8 0, .int .u8 0, .int .u8 0, .int .u8 0, .int .u8 0, .int .u8 0, .int .u8 0, .int .u8 0, .int .u8 0, .int .u8 0, .int .u8 0, .int .u8 0, .int .u8 0, .int .u8 0, .int .u8 0, .int .u8 0, .int .u8 0, .int .u8 0, .int .u8 0, .int .u8 0, .int .u8 0, .int .u8 0, .int .u8 0, .int .u8 0, .int .u8 0, .int .u8 0, .int .u8 0, .int .u8 0, .int .u8 0, .int .u8 0, .int .u8 0, .int .u8 0, .int .u8 0, .int .u8 0, .int .u8 0, .int .u8 0, .int .u8 0, .int .u8 0, .int .u8 0, .int .u8 0, .int .u8 0, .int .u8 0, .int .u8 0, .int .u8 0, .int .u8 0, .int .u8 0, .int .u8 0, .int .u8 0, .int .u8 0, .int .u8 0, .int .u8 0, .int .u8 0, .int .u8 0, .int .u8 0, .int .u8 0, .int .u8 0, .int .u8 0, .int .u8 0, .int .u8 0, .int .u8 0, .int .u8 0, .int .u8 0, .int .u8 0, .int .u8 0, .int .u8 0, .int .u8 0, .int .u8 0, .int .u8 0, .int .u8 0, .int .u8 0, .int .u8 0, .int .u8 0, .int .u8 0, .int .u8 0, .int .u8 0, .int .u8 0, .int .u8 0, .int .u8 0, .int .u8 0, .int .u8 0, .int .u8 0, .int .u8 0, .int .u8 0, .int .u8 0, .int .u8 0, .int .u8 0, .int .u8 0, .int .u8 0, .int .u8 0, .int .u8 0, .int .u8 0, .int .u8 0, .int .u8 0, .int .u8 0, .int .u8 0, .int .u8 0, .int .u8 0, .int .u8 0, .int .u8 0, .int .u8 0, .int .u8 0, .int .u8 0, .int .u8 0, .int .u8 0, .int .u8 0, .int .u8 0, .int .u8 0, .int .u8 0, .int .u8 0, .int .u8 0, .int .u8 0, .int .u8 0, .int .u8 0, .int .u8 0, .int .u8 0, .int .u8 0, .int .u8 0, .int .u8 0, .int .u8 0, .int .u8 0, .int .u8 0, .int .u8 0, .int .u8 0, .int .u8 0, .int .u8 0, .int .u8 0, .int .u8 0, .int .u8 0, .int .u8 0, .int .u8 0, .int .u8 0, .int .u8 0, .int .u8 0, .int .u8 0, .int .u8 0, .int .u8 0, .int .u8 0, .int .u8 0, .int .u8 0, .int .u8 0, .int .u8 0, .int .u8 0, .int .u8 0, .int .u8 0, .int .u8 0, .int .u8 0, .int .u8 0, .int .u8 0, .int .u8 0, .int .u8 0, .int .u8 0, .int .u8 0, .int .u8 0, .int .u8 0, .int .u8 0, .int .u8 0, .int .u8 0, .int .u8 0, .int .u8 0, .int .u8 0, .int .u8 0, .int .u8 0, .int .u8 0, .int .u8 0, .int .u8 0, .int .u8 0, .int .u8 0, .int .u8 0, .int .u8 0, .int .u8 0, .int .u8 0, .int .u8 0, .int .u8 0, .int .u8 0, .int .u8 0, .int .u8 0, .int .u8 0, .int .u8 0, .int .u8 0, .int .u8 0, .int .u8 0, .int .u8 0, .int .u8 0, .int .u8 0]⟩ (.leaf)) 302 ⟨.stru [(5, 0, 1), (5, 1, 1)], 2, 2, .agg #[.int .u8 0, .int .u8 0]⟩ (.leaf)) 303 ⟨.stru [(5, 0, 1), (5, 1, 1)], 2, 2, .agg #[.int .u8 0, .int .u8 0]⟩ (.node (.leaf) 304 ⟨.arr 16 303, 32, 32, .agg #[.int .u8 0, .int .u8 0, .int .u8 0, .int .u8 0, .int .u8 0, .int .u8 0, .int .u8 0, .int .u8 0, .int .u8 0, .int .u8 0, .int .u8 0, .int .u8 0, .int .u8 0, .int .u8 0, .int .u8 0, .int .u8 0, .int .u8 0, .int .u8 0, .int .u8 0, .int .u8 0, .int .u8 0, .int .u8 0, .int .u8 0, .int .u8 0, .int .u8 0, .int .u8 0, .int .u8 0, .int .u8 0, .int .u8 0, .int .u8 0, .int .u8 0, .int .u8 0]⟩ (.leaf)))))) 305 ⟨.func, 1, 8, .nilFunc⟩ (.node (.node (.node (.node (.node (.node (.leaf) 306 ⟨.func, 1, 8, .nilFunc⟩ (.leaf)) 307 ⟨.func, 1, 8, .nilFunc⟩ (.leaf)) 308 ⟨.func, 1, 8, .nilFunc⟩ (.node (.node (.leaf) 309 ⟨.func, 1, 8, .nilFunc⟩ (.leaf)) 310 ⟨.func, 1, 8, .nilFunc⟩ (.leaf))) 311 ⟨.int .u64, 1, 8, .int .u64 0⟩ (.node (.node (.node (.leaf) 312 ⟨.func, 1, 8, .nilFunc⟩ (.leaf)) 313 ⟨.func, 1, 8, .nilFunc⟩ (.leaf)) 314 ⟨.ptr 3, 1, 8, .pointer none⟩ (.node (.leaf) 315 ⟨.func, 1, 8, .nilFunc⟩ (.leaf)))) 316 ⟨.func, 1, 8, .nilFunc⟩ (.node (.node (.node (.node (.leaf) 317 ⟨.func, 1, 8, .nilFunc⟩ (.leaf)) 318 ⟨.func, 1, 8, .nilFunc⟩ (.leaf)) 319 ⟨.func, 1, 8, .nilFunc⟩ (.node (.leaf) 321 ⟨.func, 1, 8, .nilFunc⟩ (.leaf))) 322 ⟨.ptr 172, 1, 8, .pointer none⟩ (.node (.node (.node (.leaf) 323 ⟨.func, 1, 8, .nilFunc⟩ (.leaf)) 324 ⟨.func, 1, 8, .nilFunc⟩ (.leaf)) 325 ⟨.func, 1, 8, .nilFunc⟩ (.node (.leaf) 326 ⟨.ptr 311, 1, 8, .pointer none⟩ (.leaf))))) 328 ⟨.func, 1, 8, .nilFunc⟩ (.node (.node (.node (.node (.node (.leaf) 329 ⟨.func, 1, 8, .nilFunc⟩ (.leaf)) 330 ⟨.func, 1, 8, .nilFunc⟩ (.leaf)) 331 ⟨.func, 1, 8, .nilFunc⟩ (.node (.leaf) 332 ⟨.func, 1, 8, .nilFunc⟩ (.leaf))) 333 ⟨.stru [(17, 0, 1), (17, 1, 1), (17, 2, 1), (9, 3, 1)], 4, 40, .agg #[.pointer none, .pointer none, .pointer none, .string ⟨#[]⟩]⟩ (.node (.node (.node (.leaf) 334 ⟨.stru [(17, 0, 1), (17, 1, 1), (17, 2, 1), (9, 3, 1)], 4, 40, .agg #[.pointer none, .pointer none, .pointer none, .string ⟨#[]⟩]⟩ (.leaf)) 335 ⟨.arr 0 16, 0, 0, .agg #[]⟩ (.leaf)) 336 ⟨.stru [(335, 0, 0)], 0, 0, .agg #[]⟩ (.node (.leaf) 337 ⟨.stru [(335, 0, 0)], 0, 0, .agg #[]⟩ (.leaf)))) 338 ⟨.int .u8, 1, 1, .int .u8 0⟩ (.node (.node (.node (.node (.leaf) 339 ⟨.int .u8, 1, 1, .int .u8 0⟩ (.leaf)) 340 ⟨.func, 1, 8, .nilFunc⟩ (.leaf)) 341 ⟨.ptr 5, 1, 8, .pointer none⟩ (.node (.leaf) 342 ⟨.int .i32, 1, 4, .int .i32 0⟩ (.leaf))) 343 ⟨.int .i32, 1, 4, .int .i32 0⟩ (.node (.node (.node (.leaf) 344 ⟨.stru [(12, 0, 1), (12, 1, 1), (65, 2, 1), (338, 3, 1), (5, 4, 1), (5, 5, 1), (339, 6, 1), (340, 7, 1), (341, 8, 1), (342, 9, 1), (343, 10, 1)], 11, 48, .agg #[.int .u64 0, .int .u64 0, .int .u32 0, .int .u8 0, .int .u8 0, .int .u8 0, .int .u8 0, .nilFunc, .pointer none, .int .i32 0, .int .i32 0]⟩ (.leaf)) 345 ⟨.stru [(12, 0, 1), (12, 1, 1), (65, 2, 1), (338, 3, 1), (5, 4, 1), (5, 5, 1), (339, 6, 1), (340, 7, 1), (341, 8, 1), (342, 9, 1), (343, 10, 1)], 11, 48, .agg #[.int .u64 0, .int .u64 0, .int .u32 0, .int .u8 0, .int .u8 0, .int .u8 0, .int .u8 0, .nilFunc, .pointer none, .int .i32 0, .int .i32 0]⟩ (.leaf)) 346 ⟨.stru [(9, 0, 1), (53, 1, 4)], 5, 56, .agg #[.string ⟨#[]⟩, .int .i64 0, .int .i64 0, .float .f64 0, .string ⟨#[]⟩]⟩ (.node (.leaf) 347 ⟨.stru [(9, 0, 1), (53, 1, 4)], 5, 56, .agg #[.string ⟨#[]⟩, .int .i64 0, .int .i64 0, .float .f64 0, .string ⟨#[]⟩]⟩ (.leaf))))))))
theorem T_ok : T.Ok Tryz.prog := ⟨⟨⟨⟨⟨⟨⟨⟨⟨trivial, ty1, trivial⟩, ty2, trivial⟩, ty3, ⟨⟨trivial, ty4, trivial⟩, ty5, trivial⟩⟩, ty6, ⟨⟨⟨trivial, ty7, trivial⟩, ty8, trivial⟩, ty9, ⟨trivial, ty10, trivial⟩⟩⟩, ty11, ⟨⟨⟨⟨trivial, ty12, trivial⟩, ty13, trivial⟩, ty14, ⟨trivial, ty15, trivial⟩⟩, ty16, ⟨⟨⟨trivial, ty17, trivial⟩, ty18, trivial⟩, ty19, ⟨trivial, ty20, trivial⟩⟩⟩⟩, ty21, ⟨⟨⟨⟨⟨trivial, ty22, trivial⟩, ty23, trivial⟩, ty24, ⟨⟨trivial, ty25, trivial⟩, ty27, trivial⟩⟩, ty28, ⟨⟨⟨trivial, ty29, trivial⟩, ty30, trivial⟩, ty31, ⟨trivial, ty32, trivial⟩⟩⟩, ty34, ⟨⟨⟨⟨trivial, ty35, trivial⟩, ty36, trivial⟩, ty37, ⟨trivial, ty38, trivial⟩⟩, ty40, ⟨⟨⟨trivial, ty41, trivial⟩, ty42, trivial⟩, ty43, ⟨trivial, ty44, trivial⟩⟩⟩⟩⟩, ty45, ⟨⟨⟨⟨⟨⟨trivial, ty46, trivial⟩, ty47, trivial⟩, ty48, ⟨⟨trivial, ty49, trivial⟩, ty50, trivial⟩⟩, ty51, ⟨⟨⟨trivial, ty52, trivial⟩, ty53, trivial⟩, ty54, ⟨trivial, ty55, trivial⟩⟩⟩, ty56, ⟨⟨⟨⟨trivial, ty57, trivial⟩, ty58, trivial⟩, ty60, ⟨trivial, ty61, trivial⟩⟩, ty62, ⟨⟨⟨trivial, ty63, trivial⟩, ty64, trivial⟩, ty65, ⟨trivial, ty66, trivial⟩⟩⟩⟩, ty67, ⟨⟨⟨⟨⟨trivial, ty69, trivial⟩, ty70, trivial⟩, ty71, ⟨trivial, ty72, trivial⟩⟩, ty73, ⟨⟨⟨trivial, ty74, trivial⟩, ty75, trivial⟩, ty76, ⟨trivial, ty77, trivial⟩⟩⟩, ty78, ⟨⟨⟨⟨trivial, ty79, trivial⟩, ty80, trivial⟩, ty81, ⟨trivial, ty82, trivial⟩⟩, ty83, ⟨⟨⟨trivial, ty84, trivial⟩, ty85, trivial⟩, ty86, ⟨trivial, ty87, trivial⟩⟩⟩⟩⟩⟩, ty88, ⟨⟨⟨⟨⟨⟨⟨trivial, ty89, trivial⟩, ty90, trivial⟩, ty91, ⟨⟨trivial, ty92, trivial⟩, ty93, trivial⟩⟩, ty94, ⟨⟨⟨trivial, ty95, trivial⟩, ty96, trivial⟩, ty98, ⟨trivial, ty99, trivial⟩⟩⟩, ty100, ⟨⟨⟨⟨trivial, ty101, trivial⟩, ty103, trivial⟩, ty104, ⟨trivial, ty105, trivial⟩⟩, ty106, ⟨⟨⟨trivial, ty107, trivial⟩, ty108, trivial⟩, ty109, ⟨trivial, ty110, trivial⟩⟩⟩⟩, ty111, ⟨⟨⟨⟨⟨trivial, ty112, trivial⟩, ty113, trivial⟩, ty114, ⟨⟨trivial, ty116, trivial⟩, ty117, trivial⟩⟩, ty118, ⟨⟨⟨trivial, ty119, trivial⟩, ty120, trivial⟩, ty121, ⟨trivial, ty122, trivial⟩⟩⟩, ty123, ⟨⟨⟨⟨trivial, ty124, trivial⟩, ty126, trivial⟩, ty127, ⟨trivial, ty128, trivial⟩⟩, ty129, ⟨⟨⟨trivial, ty130, trivial⟩, ty131, trivial⟩, ty132, ⟨trivial, ty133, trivial⟩⟩⟩⟩⟩, ty134, ⟨⟨⟨⟨⟨⟨trivial, ty136, trivial⟩, ty137, trivial⟩, ty138, ⟨⟨trivial, ty139, trivial⟩, ty140, trivial⟩⟩, ty141, ⟨⟨⟨trivial, ty142, trivial⟩, ty143, trivial⟩, ty144, ⟨trivial, ty145, trivial⟩⟩⟩, ty146, ⟨⟨⟨⟨trivial, ty147, trivial⟩, ty148, trivial⟩, ty149, ⟨trivial, ty150, trivial⟩⟩, ty151, ⟨⟨⟨trivial, ty152, trivial⟩, ty153, trivial⟩, ty154, ⟨trivial, ty155, trivial⟩⟩⟩⟩, ty156, ⟨⟨⟨⟨⟨trivial, ty157, trivial⟩, ty158, trivial⟩, ty159, ⟨trivial, ty160, trivial⟩⟩, ty161, ⟨⟨⟨trivial, ty162, trivial⟩, ty163, trivial⟩, ty164, ⟨trivial, ty165, trivial⟩⟩⟩, ty166, ⟨⟨⟨⟨trivial, ty167, trivial⟩, ty168, trivial⟩, ty169, ⟨trivial, ty170, trivial⟩⟩, ty171, ⟨⟨⟨trivial, ty172, trivial⟩, ty173, trivial⟩, ty174, ⟨trivial, ty175, trivial⟩⟩⟩⟩⟩⟩⟩, ty176, ⟨⟨⟨⟨⟨⟨⟨⟨trivial, ty177, trivial⟩, ty178, trivial⟩, ty179, ⟨⟨trivial, ty180, trivial⟩, ty181, trivial⟩⟩, ty182, ⟨⟨⟨trivial, ty184, trivial⟩, ty185, trivial⟩, ty186, ⟨trivial, ty188, trivial⟩⟩⟩, ty189, ⟨⟨⟨⟨trivial, ty190, trivial⟩, ty191, trivial⟩, ty192, ⟨trivial, ty193, trivial⟩⟩, ty194, ⟨⟨⟨trivial, ty195, trivial⟩, ty196, trivial⟩, ty197, ⟨trivial, ty198, trivial⟩⟩⟩⟩, ty199, ⟨⟨⟨⟨⟨trivial, ty200, trivial⟩, ty201, trivial⟩, ty202, ⟨⟨trivial, ty203, trivial⟩, ty204, trivial⟩⟩, ty205, ⟨⟨⟨trivial, ty206, trivial⟩, ty207, trivial⟩, ty208, ⟨trivial, ty209, trivial⟩⟩⟩, ty210, ⟨⟨⟨⟨trivial, ty211, trivial⟩, ty212, trivial⟩, ty213, ⟨trivial, ty214, trivial⟩⟩, ty215, ⟨⟨⟨trivial, ty216, trivial⟩, ty217, trivial⟩, ty219, ⟨trivial, ty220, trivial⟩⟩⟩⟩⟩, ty221, ⟨⟨⟨⟨⟨⟨trivial, ty222, trivial⟩, ty223, trivial⟩, ty224, ⟨⟨trivial, ty225, trivial⟩, ty226, trivial⟩⟩, ty227, ⟨⟨⟨trivial, ty228, trivial⟩, ty229, trivial⟩, ty230, ⟨trivial, ty231, trivial⟩⟩⟩, ty232, ⟨⟨⟨⟨trivial, ty233, trivial⟩, ty234, trivial⟩, ty235, ⟨trivial, ty236, trivial⟩⟩, ty237, ⟨⟨⟨trivial, ty238, trivial⟩, ty239, trivial⟩, ty240, ⟨trivial, ty241, trivial⟩⟩⟩⟩, ty242, ⟨⟨⟨⟨⟨trivial, ty243, trivial⟩, ty244, trivial⟩, ty245, ⟨trivial, ty246, trivial⟩⟩, ty247, ⟨⟨⟨trivial, ty248, trivial⟩, ty249, trivial⟩, ty250, ⟨trivial, ty251, trivial⟩⟩⟩, ty252, ⟨⟨⟨⟨trivial, ty253, trivial⟩, ty254, trivial⟩, ty255, ⟨trivial, ty256, trivial⟩⟩, ty257, ⟨⟨⟨trivial, ty258, trivial⟩, ty259, trivial⟩, ty260, ⟨trivial, ty261, trivial⟩⟩⟩⟩⟩⟩, ty262, ⟨⟨⟨⟨⟨⟨⟨trivial, ty263, trivial⟩, ty264, trivial⟩, ty265, ⟨⟨trivial, ty266, trivial⟩, ty267, trivial⟩⟩, ty268, ⟨⟨⟨trivial, ty269, trivial⟩, ty270, trivial⟩, ty271, ⟨trivial, ty272, trivial⟩⟩⟩, ty273, ⟨⟨⟨⟨trivial, ty274, trivial⟩, ty275, trivial⟩, ty276, ⟨trivial, ty277, trivial⟩⟩, ty278, ⟨⟨⟨trivial, ty279, trivial⟩, ty280, trivial⟩, ty281, ⟨trivial, ty282, trivial⟩⟩⟩⟩, ty283, ⟨⟨⟨⟨⟨trivial, ty284, trivial⟩, ty285, trivial⟩, ty286, ⟨⟨trivial, ty287, trivial⟩, ty289, trivial⟩⟩, ty290, ⟨⟨⟨trivial, ty291, trivial⟩, ty292, trivial⟩, ty293, ⟨trivial, ty294, trivial⟩⟩⟩, ty295, ⟨⟨⟨⟨trivial, ty296, trivial⟩, ty297, trivial⟩, ty298, ⟨trivial, ty299, trivial⟩⟩, ty300, ⟨⟨⟨trivial, ty301, trivial⟩, ty302, trivial⟩, ty303, ⟨trivial, ty304, trivial⟩⟩⟩⟩⟩, ty305, ⟨⟨⟨⟨⟨⟨trivial, ty306, trivial⟩, ty307, trivial⟩, ty308, ⟨⟨trivial, ty309, trivial⟩, ty310, trivial⟩⟩, ty311, ⟨⟨⟨trivial, ty312, trivial⟩, ty313, trivial⟩, ty314, ⟨trivial, ty315, trivial⟩⟩⟩, ty316, ⟨⟨⟨⟨trivial, ty317, trivial⟩, ty318, trivial⟩, ty319, ⟨trivial, ty321, trivial⟩⟩, ty322, ⟨⟨⟨trivial, ty323, trivial⟩, ty324, trivial⟩, ty325, ⟨trivial, ty326, trivial⟩⟩⟩⟩, ty328, ⟨⟨⟨⟨⟨trivial, ty329, trivial⟩, ty330, trivial⟩, ty331, ⟨trivial, ty332, trivial⟩⟩, ty333, ⟨⟨⟨trivial, ty334, trivial⟩, ty335, trivial⟩, ty336, ⟨trivial, ty337, trivial⟩⟩⟩, ty338, ⟨⟨⟨⟨trivial, ty339, trivial⟩, ty340, trivial⟩, ty341, ⟨trivial, ty342, trivial⟩⟩, ty343, ⟨⟨⟨trivial, ty344, trivial⟩, ty345, trivial⟩, ty346, ⟨trivial, ty347, trivial⟩⟩⟩⟩⟩⟩⟩⟩
theorem T_okN : (Ty.norm T).Ok Tryz.prog := T_ok
end Go.Proofs.YtgpgladbdoimdaaGreatDoor
end
section
namespace Go.Ev
open Go.RowKit
def Own (m : World) (S : List Nat) (t : TypeId) (sz : Nat) (v : Value) (n : Nat) (xs : List Value) : Prop :=
  xs.length = n * sz ∧ ((∃ A, v = .slice A 0 0 ∧ n = 0 ∧ S = []) ∨
    ∃ g cap cur, v = .slice (some ⟨g, 0, none⟩) n cap ∧ Blk m g t cur ∧ n ≤ cap ∧ cap ≤ maxLen ∧ cur.length = cap * sz ∧ cur.take (n * sz) = xs ∧ S = [g])
def FpNew (m : World) (S S' : List Nat) : Prop := ∀ k ∈ S', k ∈ S ∨ m.heap.size ≤ k
section
variable {m m' m'' : World} {S S' S'' M M' : List Nat} {t : TypeId} {sz : Nat} {v : Value} {n : Nat} {xs : List Value}
theorem FpNew.refl (m : World) (S : List Nat) : FpNew m S S := fun _ h => .inl h
theorem FpNew.nil (m : World) (S : List Nat) : FpNew m S [] := fun _ h => by cases h
theorem FpNew.trans (h : FpNew m S S') (h' : FpNew m' S' S'') (hsz : m.heap.size ≤ m'.heap.size) : FpNew m S S'' := fun k hk => by
  rcases h' k hk with h1 | h1
  · exact h k h1
  · exact .inr (Nat.le_trans hsz h1)
theorem FpNew.trans' (h : FpNew m' S S') (hE : Ext m M m') : FpNew m S S' := fun k hk => by
  rcases h k hk with h1 | h1
  · exact .inl h1
  · exact .inr (Nat.le_trans hE.size h1)
theorem FpNew.cons (h : FpNew m S S') (b : Nat) (hb : b ∈ S ∨ m.heap.size ≤ b) : FpNew m S (b :: S') := fun k hk => by
  rcases List.mem_cons.1 hk with rfl | h1
  · exact hb
  · exact h k h1
theorem FpNew.more (h : FpNew m S S') (hS : ∀ k ∈ S, k ∈ S'') : FpNew m S'' S' := fun k hk => by
  rcases h k hk with h1 | h1
  · exact .inl (hS k h1)
  · exact .inr h1
theorem FpNew.far (h : FpNew m S S') {k : Nat} (hk : k ∉ S) (hlt : k < m.heap.size) : k ∉ S' := fun hh => by
  rcases h k hh with h1 | h1
  · exact hk h1
  · omega
theorem Own.empty (m : World) (t : TypeId) (sz : Nat) (A : Option Addr) : Own m [] t sz (.slice A 0 0) 0 [] := ⟨by simp, .inl ⟨A, rfl, rfl, rfl⟩⟩
theorem Own.lt (h : Own m S t sz v n xs) : ∀ k ∈ S, k < m.heap.size := by
  rcases h.2 with ⟨_, _, _, rfl⟩ | ⟨g, _, _, _, hB, _, _, _, _, rfl⟩
  · simp
  · simpa using hB.lt
theorem Own.ext (h : Own m S t sz v n xs) (hE : Ext m M m') (hM : ∀ k ∈ S, k ∉ M) : Own m' S t sz v n xs := by
  refine ⟨h.1, ?_⟩
  rcases h.2 with h1 | ⟨g, cap, cur, hv, hB, h1, h2, h3, h4, rfl⟩
  · exact .inl h1
  · exact .inr ⟨g, cap, cur, hv, hB.ext hE (hM g (by simp)), h1, h2, h3, h4, rfl⟩
theorem Own.sl (h : Own m S t sz v n xs) (hM : ∀ k ∈ S, k ∉ M) : Sl m M sz v xs := by
  obtain ⟨hl, h1 | ⟨g, cap, cur, hv, hB, h1, h2, h3, h4, rfl⟩⟩ := h
  · obtain ⟨A, rfl, rfl, rfl⟩ := h1
    have : xs = [] := List.eq_nil_of_length_eq_zero (by simpa using hl)
    subst this
    exact ⟨A, 0, 0, rfl, Nat.le_refl _, Nat.zero_le _, by simp, fun _ => rfl, fun h => absurd h (by omega)⟩
  · subst hv
    subst h4
    exact Sl.of_blk hB (hM g (by simp)) (by rw [h3]; exact Nat.mul_le_mul_right _ h1) h1 h2
theorem Own.one (h : Own m S t sz v n xs) : v.oneCell' = true := by
  rcases h.2 with ⟨_, rfl, _⟩ | ⟨_, _, _, rfl, _⟩ <;> rfl
theorem Own.shape (h : Own m S t sz v n xs) : ∃ A c, v = .slice A n c ∧ n ≤ c := by
  rcases h.2 with ⟨A, rfl, rfl, _⟩ | ⟨g, cap, _, rfl, _, h1, _⟩
  · exact ⟨A, 0, rfl, Nat.le_refl _⟩
  · exact ⟨_, cap, rfl, h1⟩
theorem Own.at_ (h : Own m S t sz v n xs) (hn : 0 < n) : ∃ g cap cur, v = .slice (some ⟨g, 0, none⟩) n cap ∧ Blk m g t cur ∧ n ≤ cap ∧ cap ≤ maxLen ∧ cur.length = cap * sz ∧ cur.take (n * sz) = xs ∧ S = [g] := by
  rcases h.2 with ⟨_, _, rfl, _⟩ | h
  · omega
  · exact h
end
section
variable {P : Program} {T : Ty} {m w : World} {S : List Nat} {te t : TypeId} {rt r : Row} {v x : Value} {n k : Nat} {xs news : List Value}
def Src (P : Program) (sz : Nat) (m : World) (x : Value) (k : Nat) (news : List Value) : Prop :=
  (∀ w, (Builtin.lenOf x).run P w = .ok k w) ∧ ∀ w, Sim m w → (Builtin.firstCells sz k x).run P w = .ok news.toArray w
theorem Src.of_sl {M : List Nat} {sz : Nat} {A : Option Addr} {c : Nat} (h : Sl m M sz (.slice A k c) news) : Src P sz m (.slice A k c) k news := by
  obtain ⟨A', n', c', hv, _, _, hl, hA, hr⟩ := h
  injection hv with h1 h2 h3
  subst h1; subst h2; subst h3
  refine ⟨fun w => by simp [Builtin.lenOf], fun w hs => ?_⟩
  cases A with
  | none => 
    have h0 := hA rfl
    rcases Nat.eq_zero_or_pos k with rfl | hk
    · have : news = [] := List.eq_nil_of_length_eq_zero (by simpa using hl)
      subst this
      simp [Builtin.firstCells]
    · obtain ⟨ad, had, _⟩ := hr hk; cases had
  | some ad =>
    refine run_firstCells_some w sz k ad k c news hl (fun j u hu => ?_)
    have h0 : j < news.length := (List.getElem?_eq_some_iff.1 hu).1
    have hk : 0 < k := by
      rcases Nat.eq_zero_or_pos k with rfl | hk
      · rw [hl] at h0; simp at h0
      · exact hk
    obtain ⟨ad', had, _, hc⟩ := hr hk
    injection had with had
    subst had
    exact (hs.cell _).trans (hc j u hu)
def u8s (l : List UInt8) : List Value := l.map fun b => .int .u8 b.toNat
theorem size_zero (z : Array Value) (n : Nat) : (Builtin.zeroCells z n).toList.length = n * z.size := by simp [Builtin.zeroCells]
theorem append_run (hT : T.Ok P) (hrt : T.row t = some rt) (hk : rt.k = .sli te) (hr : T.row te = some r) (hcz : r.zero.cells.size = r.size) {tx : TypeId} (htx : P.underlying tx = some (.slice te) ∨ P.underlying tx = some .string)
    (hown : Own m S te r.size v n xs) (hsrc : Src P r.size m x k news) (hl : news.length = k * r.size) (h1 : ∀ u ∈ news, u.oneCell' = true) (hmax : n + k ≤ maxLen) (hbytes : (n + k) * r.bytes ≤ 140737488355328) (hs : Sim m w) (ty : TypeId) :
    ∃ v' w' S', (Builtin.append_ #[t, tx] ty #[v, x]).run P w = .ok v' w' ∧ Own w' S' te r.size v' (n + k) (xs ++ news) ∧ Ext m S (low m w') ∧ FpNew m S S' := by
  have hu := (hT.row hrt).k
  rw [hk] at hu
  obtain ⟨i, hi, hz0, hz1, hz2⟩ := (hT.row hr).parts
  have h63 : ¬ ((n + k : Nat) : Int) > IntKind.i64.max := by
    have : IntKind.i64.max = 9223372036854775807 := by decide
    rw [this]; simp only [maxLen] at hmax; omega
  have hlen : (xs ++ news).length = (n + k) * r.size := by rw [List.length_append, hown.1, hl, Nat.add_mul]
  -- the growing way, from whatever there was
  have grow : ∀ (A : Option Addr) (cap : Nat), v = .slice A n cap → cap < n + k → (∀ W, Sim m W → (Builtin.firstCells r.size n v).run P W = .ok xs.toArray W) →
      ∃ v' w' S', (Builtin.append_ #[t, tx] ty #[v, x]).run P w = .ok v' w' ∧ Own w' S' te r.size v' (n + k) (xs ++ news) ∧ Ext m S (low m w') ∧ FpNew m S S' := by
    intro A cap hv hlt hold
    have h48 : ¬ (281474976710656 < Builtin.nextslicecap (n + k) cap * i.bytes) := by
      rw [hz2]
      have := growslice_fits hlt hbytes
      omega
    have hge := grownCap_ge w (n + k) cap te
    have hcm := grownCap_le_maxLen w (n + k) cap te hmax
    have hb : Blk (w.drew.alloc (.cells (xs ++ news ++ (Builtin.zeroCells r.zero.cells (grownCap w (n + k) cap te - (n + k))).toList).toArray te)) w.heap.size te (xs ++ news ++ (Builtin.zeroCells r.zero.cells (grownCap w (n + k) cap te - (n + k))).toList) := heap_alloc_new w.drew _
    refine ⟨.slice (some ⟨w.heap.size, 0, none⟩) (n + k) (grownCap w (n + k) cap te), w.drew.alloc (.cells (xs ++ news ++ (Builtin.zeroCells r.zero.cells (grownCap w (n + k) cap te - (n + k))).toList).toArray te), [w.heap.size], ?_, ?_, ?_, ?_⟩
    · have hf1 := hold w.drew (hs.drew)
      have hf2 := hsrc.2 w.drew (hs.drew)
      rw [hv] at hf1
      have hn' : ¬ (n + k ≤ cap) := by omega
      have h63' : ¬ (9223372036854775807 < ((n : Int) + (k : Int))) := by simp only [maxLen] at hmax; omega
      rcases htx with htx | htx <;> simp [Builtin.append_, run_underlying hu, run_underlying htx, sizeOf, typeInfo, zeroValue, hi, hz0, hz1, hv, hsrc.1, hn', h48, h63', hf1, hf2, newRow, Question.forced, grownCap] <;> (congr 2; apply Array.ext'; simp)
    · exact ⟨hlen, .inr ⟨_, _, _, rfl, hb, hge, hcm, by
        simp only [List.length_append, hown.1, hl, size_zero, hcz, ← Nat.add_mul]; congr 1; omega, by rw [← hlen]; exact List.take_left, rfl⟩⟩
    · refine ⟨hs.os, hs.tape, hs.output, by rw [low_heap]; simp [hs.size], fun q hq _ => ?_, dle.low (Nat.le_succ_of_le hs.drawn)⟩
      rw [low_heap, Below.heap_alloc w.drew _ q (by show q < w.heap.size; rw [hs.size]; exact hq)]
      show w.heap[q]? = _
      rw [hs.heap]
    · intro q hq
      have : q = w.heap.size := by simpa using hq
      subst this
      exact .inr (by rw [hs.size]; exact Nat.le_refl _)
  rcases hown.2 with ⟨A, rfl, rfl, rfl⟩ | ⟨g, cap, cur, rfl, hB, hnc, hcm, hcl, htake, rfl⟩
  · have hx : xs = [] := List.eq_nil_of_length_eq_zero (by simpa using hown.1)
    subst hx
    rcases Nat.eq_zero_or_pos k with rfl | hk0
    · have hn : news = [] := List.eq_nil_of_length_eq_zero (by simpa using hl)
      subst hn
      refine ⟨.slice A 0 0, w, [], ?_, Own.empty w te r.size A, ⟨hs.os, hs.tape, hs.output, by rw [low_heap, hs.size]; exact Nat.le_refl _, fun q _ _ => by rw [low_heap, hs.heap], dle.low hs.drawn⟩, FpNew.nil _ _⟩
      have hf2 := hsrc.2 w hs
      rcases htx with htx | htx <;> cases A <;> simp [Builtin.append_, run_underlying hu, run_underlying htx, sizeOf, typeInfo, hi, hz1, hsrc.1, hf2, storeCells]
    · refine grow A 0 rfl (by omega) (fun W _ => ?_)
      cases A <;> simp [Builtin.firstCells, loadCells, loadCellsFrom]
  · by_cases hroom : n + k ≤ cap
    · have hw : w.heap[g]? = some (.cells cur.toArray te (0, 0)) := by rw [hs.heap]; exact hB
      have hfit : 0 + n * r.size + news.length ≤ cur.toArray.size := by
        rw [hl, Nat.zero_add, ← Nat.add_mul]; simp only [List.size_toArray, hcl]; exact Nat.mul_le_mul_right _ hroom
      have h3 := run_storeCells_at P g (n * r.size) te news 0 cur.toArray w hw (by simpa using hfit) h1
      simp only [Nat.add_zero] at h3
      have hB' := (setRow_chg hw (cur.take (n * r.size) ++ news ++ cur.drop (n * r.size + news.length))).blk
      refine ⟨.slice (some ⟨g, 0, none⟩) (n + k) cap, _, [g], ?_, ⟨hlen, .inr ⟨g, cap, _, rfl, hB', hroom, hcm, ?_, ?_, rfl⟩⟩, ?_, FpNew.refl _ _⟩
      · have hf2 := hsrc.2 w hs
        have h3' : (storeCells ⟨g, n * r.size, none⟩ news).run P w = .ok () (w.setRow g (cur.take (n * r.size) ++ news ++ cur.drop (n * r.size + news.length)).toArray) := h3
        rcases htx with htx | htx <;> simp [Builtin.append_, run_underlying hu, run_underlying htx, sizeOf, typeInfo, hi, hz1, hsrc.1, hf2, hroom, add_block, h3']
      · have h5 : n * r.size + news.length ≤ cur.length := by simpa using hfit
        simp only [List.length_append, List.length_take, List.length_drop, ← hcl]
        omega
      · rw [htake, ← hlen]; exact List.take_left
      · have h6 := (setRow_chg hw (cur.take (n * r.size) ++ news ++ cur.drop (n * r.size + news.length))).ext
        exact ⟨h6.os.trans hs.os, h6.tape.trans hs.tape, h6.output.trans hs.output, by rw [low_heap, ← hs.size]; exact h6.size, fun q hq hq' => by rw [low_heap, h6.far q (by rw [hs.size]; exact hq) hq', hs.heap], dle.low (Nat.le_trans hs.drawn h6.drawn.1)⟩
    · refine grow _ cap rfl (by omega) (fun W hW => ?_)
      refine run_firstCells_some W r.size n ⟨g, 0, none⟩ n cap xs hown.1 (fun j u hu => ?_)
      rw [hW.cell, add_block]
      refine hB.cell _ ?_
      rw [← htake, List.getElem?_take] at hu
      split at hu
      · simpa using hu
      · cases hu
end
section
variable {P : Program} {T : Ty} {ops : Array Oper} {Q : Exit → Act → World → Prop} {rest : List Oper} {n : Nat} {e e' : Env} {D : Fr} {m : World}
  {d : Option Tmp} {x y : Operand} {t tx ty ty1 : TypeId} {pos pos1 : String} {aft aft1 : Array Edge} {g : Option (Nat × Bool)} {v : Value} {rt r : Row}
def Ty.elem (T : Ty) (t : TypeId) : Option (TypeId × Row) := match T.row t with
  | some rt => match rt.k with
    | .sli te => match T.row te with
      | some r => match Nat.beq r.zero.cells.size r.size with
        | true => match Nat.blt 0 r.size with
          | true => match Nat.ble r.size 1000 with
            | true => some (te, r)
            | false => none
          | false => none
        | false => none
      | none => none
    | _ => none
  | none => none
theorem Ty.elem_spec {T : Ty} {t te : TypeId} {r : Row} (h : T.elem t = some (te, r)) : ∃ rt, T.row t = some rt ∧ rt.k = .sli te ∧ T.row te = some r ∧ r.zero.cells.size = r.size ∧ 0 < r.size ∧ r.size ≤ 1000 := by
  unfold Ty.elem at h
  split at h
  · rename_i rt hrt
    split at h
    · rename_i te' hk
      split at h
      · rename_i r' hr
        split at h
        · rename_i h1
          split at h
          · rename_i h2
            split at h
            · rename_i h3
              simp only [Option.some.injEq, Prod.mk.injEq] at h
              obtain ⟨rfl, rfl⟩ := h
              exact ⟨rt, hrt, hk, hr, by simpa using h1, by simpa using h2, Nat.le_of_ble_eq_true h3⟩
            · cases h
          · cases h
        · cases h
      · cases h
    · cases h
  · cases h
def Ty.srcOk (T : Ty) (tx te : TypeId) : Bool := match T.row tx with
  | some r => match r.k with
    | .sli te' => Nat.beq te' te
    | .str => true
    | _ => false
  | none => false
theorem Ty.srcOk_spec {T : Ty} (hT : T.Ok P) {tx te : TypeId} (h : T.srcOk tx te = true) : P.underlying tx = some (.slice te) ∨ P.underlying tx = some .string := by
  unfold Ty.srcOk at h
  split at h
  · rename_i r hr
    have h1 := (hT.row hr).k
    split at h
    · rename_i te' hk
      rw [hk] at h1
      have : te' = te := by simpa using h
      subst this
      exact .inl h1
    · rename_i hk; rw [hk] at h1; exact .inr h1
    · cases h
  · cases h
theorem RL.append (hT : T.Ok P) {te : TypeId} {S : List Nat} {s sx : Value} {nn k : Nat} {xs : List Value} (hown : Own m S te r.size s nn xs) (news : List Value) (hsrc : Src P r.size m sx k news)
    (he : T.elem t = some (te, r)) (htx : T.srcOk tx te = true)
    (hg : gd ops e ⟨d, .call ⟨.builtin .append, #[x, y], #[t, tx]⟩, ty, pos, aft, g⟩ = some true) (hx : e.ev x = some s) (hy : e.ev y = some sx) (hl : news.length = k * r.size)
    (h1 : ∀ u ∈ news, u.oneCell' = true) (hmax : nn + k ≤ maxLen) (hbytes : (nn + k) * r.bytes ≤ 140737488355328)
    (h : ∀ v' m' S', Own m' S' te r.size v' (nn + k) (xs ++ news) → Ext m S m' → FpNew m S S' → ∃ e', putE n d v' e = some e' ∧ RL P ops Q rest n e' D m') :
    RL P ops Q (⟨d, .call ⟨.builtin .append, #[x, y], #[t, tx]⟩, ty, pos, aft, g⟩ :: rest) n e D m := by
  obtain ⟨rt, hrt, hk, hr, hcz, hsz, _⟩ := Ty.elem_spec he
  refine RL.valueX (R := fun v' m' => ∃ S', Own m' S' te r.size v' (nn + k) (xs ++ news) ∧ Ext m S m' ∧ FpNew m S S') hg (fun a w hf hs => ?_) (fun v' m' ⟨S', h2, h3, h4⟩ => h v' m' S' h2 h3 h4)
  obtain ⟨v', w', S', h2, h3, h4, h5⟩ := append_run hT hrt hk hr hcz (Ty.srcOk_spec hT htx) hown hsrc hl h1 hmax hbytes hs ty
  refine ⟨v', w', low m w', ?_, Sim.low m w', S', h3, h4, h5⟩
  simp [execOp, resolve, invoke, builtin, hf.ev hx, hf.ev hy, h2]
theorem fill_parts (sz : Nat) : ∀ (us : List Value) (k : Nat) (pre suf : List Value), (∀ u ∈ us, u.cells.size = sz) → pre.length = k * sz → suf.length = us.length * sz →
    Instr.fill (fun i => some (i * sz, sz)) (pre ++ suf).toArray ((us.zipIdx k).map fun p => (p.2, p.1)) = some (pre ++ us.flatMap (·.cells.toList)).toArray
  | [], k, pre, suf, _, _, hs => by
    have : suf = [] := List.eq_nil_of_length_eq_zero (by simpa using hs)
    subst this
    simp [Instr.fill]
  | u :: us, k, pre, suf, hu, hp, hs => by
    have hfold : ∀ (l : List Value) (j : Nat) (pre' : List Value) (suf : List Value), l.length ≤ suf.length → pre'.length = k * sz + j →
        (l.zipIdx j).foldl (fun (cs : Array Value) (c : Value × Nat) => cs.setIfInBounds (k * sz + c.2) c.1) (pre' ++ suf).toArray = (pre' ++ l ++ suf.drop l.length).toArray := by
      intro l
      induction l with
      | nil => intro j pre' suf _ _; simp
      | cons c l ih =>
        intro j pre' suf hs hp
        match suf, hs with
        | [], hs => simp at hs
        | s0 :: suf, hs =>
          simp only [List.zipIdx_cons, List.foldl_cons]
          have h1 : ((pre' ++ s0 :: suf).toArray.setIfInBounds (k * sz + j) c) = ((pre' ++ [c]) ++ suf).toArray := by
            rw [List.setIfInBounds_toArray]; congr 1; rw [← hp]; simp
          have h2 := ih (j + 1) (pre' ++ [c]) suf (by simpa using hs) (by simp [hp, Nat.add_assoc])
          rw [h1, h2]
          simp
    have hsz : u.cells.size = sz := hu u (by simp)
    have hs' : suf.length = us.length * sz + sz := by rw [hs, List.length_cons, Nat.succ_mul]
    simp only [List.zipIdx_cons, List.map_cons, Instr.fill]
    rw [if_neg (by simp [hsz, hp, hs'])]
    have h4 : ∀ z : Array Value, (u.cells.zipIdx.foldl (fun cs x => cs.setIfInBounds (k * sz + x.2) x.1) z) = (u.cells.toList.zipIdx 0).foldl (fun (cs : Array Value) (c : Value × Nat) => cs.setIfInBounds (k * sz + c.2) c.1) z := by
      intro z
      rw [← Array.foldl_toList]
      simp
    have h5 := hfold u.cells.toList 0 pre suf (by simp [hsz, hs']) (by simpa using hp)
    rw [h4, h5]
    have h6 := fill_parts sz us (k + 1) (pre ++ u.cells.toList) (suf.drop u.cells.toList.length) (fun x hx => hu x (by simp [hx])) (by simp [hp, hsz, Nat.succ_mul]) (by simp [hsz, hs'])
    rw [h6]
    simp
theorem run_buildSliceN (hT : T.Ok P) {te : TypeId} (he : T.elem t = some (te, r)) (us : List Value) (hne : 0 < us.length) (hsm : us.length ≤ 16000) (hu : ∀ u ∈ us, u.cells.size = r.size) (w : World) :
    (Instr.buildSlice t us.length ((us.zipIdx 0).map fun p => (p.2, p.1)).toArray).run P w = .ok (.slice (some ⟨w.heap.size, 0, none⟩) us.length us.length) (w.alloc (.cells (us.flatMap (·.cells.toList)).toArray te)) := by
  obtain ⟨rt, hrt, hk, hr, hcz, hsz, hsz2⟩ := Ty.elem_spec he
  have hu' := (hT.row hrt).k
  rw [hk] at hu'
  obtain ⟨i, hi, hz0, hz1, _⟩ := (hT.row hr).parts
  have h0 : 0 < us.length * r.size := Nat.mul_pos hne hsz
  have h9 : us.length * r.size ≤ 16000 * 1000 := Nat.mul_le_mul hsm hsz2
  refine run_buildSlice w t te us.length _ _ i r.zero hu' hi hz0 (by rw [hz1]; omega) (by rw [hz1]; omega) ?_
  rw [hz1]
  have := fill_parts r.size us 0 [] ((Array.range (us.length * r.size)).map (r.zero.cells[· % r.zero.cells.size]!)).toList hu (by simp) (by simp)
  simp only [List.nil_append, Array.toArray_toList] at this
  exact this
def opsParts : Nat → List Operand → List (Nat × Operand)
  | _, [] => []
  | k, x :: r => (k, x) :: opsParts (k + 1) r
theorem opsParts_map (f : Operand → Value) : ∀ (l : List Operand) (k : Nat), (opsParts k l).map (fun p => (p.1, f p.2)) = ((l.map f).zipIdx k).map fun p => (p.2, p.1)
  | [], _ => rfl
  | x :: r, k => by simp [opsParts, opsParts_map f r (k + 1)]
theorem RL.buildSlice (hT : T.Ok P) {te : TypeId} {k : Nat} {parts : Array (Nat × Operand)} (xs : List Operand) {us : List Value} (cs : List Value) (he : T.elem t = some (te, r)) (hparts : parts = (opsParts 0 xs).toArray) (hk : xs.length = k) (hne : Nat.blt 0 k = true) (hsm : Nat.ble k 16000 = true)
    (hus : e.evs xs = some us) (hu : ∀ u ∈ us, u.cells.size = r.size) (hcs : us.flatMap (·.cells.toList) = cs) (hg : gd ops e ⟨d, .buildSlice t k parts, ty, pos, aft, g⟩ = some true)
    (h : ∀ b m', b = m.heap.size → Chg m b (.cells cs.toArray te (0, 0)) m' → ∃ e', putE n d (.slice (some ⟨b, 0, none⟩) k k) e = some e' ∧ RL P ops Q rest n e' D m') :
    RL P ops Q (⟨d, .buildSlice t k parts, ty, pos, aft, g⟩ :: rest) n e D m := by
  subst hparts; subst hk; subst hcs
  obtain ⟨e', hp, hk⟩ := h m.heap.size _ rfl (Chg.alloc m _)
  refine RL.valueW _ _ hg (fun a w hf hs => ⟨_, ?_, hs.alloc _⟩) hp hk
  have hl := hf.evs hus
  have hlen : us.length = xs.length := by rw [← hl]; simp
  have h2 := run_buildSliceN hT he us (by rw [hlen]; simpa using hne) (by rw [hlen]; exact Nat.le_of_ble_eq_true hsm) hu w
  rw [hlen] at h2
  have h3 : ((opsParts 0 xs).toArray.map fun p => (p.1, a.eval p.2)) = ((us.zipIdx 0).map fun p => (p.2, p.1)).toArray := by
    rw [← hl, ← opsParts_map a.eval xs 0]; simp
  simp only [execOp]
  have h4 : ((opsParts 0 xs).toArray.map fun x => match x with | (i, x) => (i, a.eval x)) = ((us.zipIdx 0).map fun p => (p.2, p.1)).toArray := h3
  rw [h4]
  simp [h2, hs.size]
theorem Src.of_blk {b : Nat} {te : TypeId} {cs : List Value} {k c sz : Nat} (h : Blk m b te cs) (hl : cs.length = k * sz) : Src P sz m (.slice (some ⟨b, 0, none⟩) k c) k cs :=
  ⟨fun w => by simp [Builtin.lenOf], fun w hs => run_firstCells_some w sz k _ k c cs hl fun j u hu => by rw [add_block]; exact (hs.cell _).trans (h.cell _ (by simpa using hu))⟩
theorem RL.append1 (hT : T.Ok P) {te : TypeId} {d1 : Tmp} {S : List Nat} {s : Value} {nn k : Nat} {xs : List Value} {parts : Array (Nat × Operand)} (ys : List Operand) {us : List Value} (hown : Own m S te r.size s nn xs) (news : List Value)
    (he : T.elem t = some (te, r)) (hparts : parts = (opsParts 0 ys).toArray) (hk : ys.length = k) (hne : Nat.blt 0 k = true) (hsm : Nat.ble k 16000 = true) (hnt : notTmp x d1 = true) (hd1 : Nat.blt d1 n = true)
    (hx : e.ev x = some s) (hus : e.evs ys = some us) (hu : ∀ u ∈ us, u.cells.size = r.size) (hcs : us.flatMap (·.cells.toList) = news) (h1 : ∀ u ∈ news, u.oneCell' = true) (hmax : nn + k ≤ maxLen) (hbytes : (nn + k) * r.bytes ≤ 140737488355328)
    (h : ∀ v' m' S', Own m' S' te r.size v' (nn + k) (xs ++ news) → Ext m S m' → FpNew m S S' → ∃ e', putE n d v' ((d1, .slice (some ⟨m.heap.size, 0, none⟩) k k) :: e) = some e' ∧ RL P ops Q rest n e' D m') :
    RL P ops Q (⟨some d1, .buildSlice t k parts, ty1, pos1, aft1, none⟩ :: ⟨d, .call ⟨.builtin .append, #[x, .tmp d1], #[t, t]⟩, ty, pos, aft, none⟩ :: rest) n e D m := by
  obtain ⟨rt, hrt, hkk, hr, hcz, hsz, _⟩ := Ty.elem_spec he
  refine RL.buildSlice hT ys news he hparts hk hne hsm hus hu hcs rfl (fun b m1 hb hC => ⟨(d1, .slice (some ⟨b, 0, none⟩) k k) :: e, by simp [putE, hd1], ?_⟩)
  subst hb
  have hB : Blk m1 m.heap.size te news := hC.here
  have hE := hC.new (Nat.le_refl _)
  have hlen : us.length = k := by
    have : ∀ (l : List Operand) (vs : List Value), e.evs l = some vs → vs.length = l.length := by
      intro l
      induction l with
      | nil => intro vs h; simp [Env.evs] at h; subst h; rfl
      | cons a l ih =>
        intro vs h
        unfold Env.evs at h
        split at h
        · split at h
          · rename_i hq; injection h with h; subst h; simp [ih _ hq]
          · cases h
        · cases h
    rw [this ys us hus, hk]
  have hl : news.length = k * r.size := by
    rw [← hcs, ← hlen]
    have : ∀ l : List Value, (∀ u ∈ l, u.cells.size = r.size) → (l.flatMap (·.cells.toList)).length = l.length * r.size := by
      intro l
      induction l with
      | nil => simp
      | cons a l ih => intro h; simp [ih (fun u hu => h u (by simp [hu])), h a (by simp), Nat.succ_mul, Nat.add_comm]
    exact this us hu
  refine RL.append hT (hown.ext hE (by simp)) news (Src.of_blk (c := k) hB hl) he (by unfold Ty.srcOk; rw [hrt]; simp [hkk]) rfl ((ev_far hnt).trans hx) (by simp [Env.ev, Env.get]) hl h1 hmax hbytes (fun v' m' S' h2 h3 h4 => ?_)
  exact h v' m' S' h2 (hE.mono (by simp) |>.trans h3 (fun k hk => .inl hk)) (h4.trans' hE)
end
end Go.Ev
end
section
namespace Go.Ev
open Go.RowKit
def plainOps (ops : Array Oper) : Bool := ops.all fun o => match o.op with | .select .. => false | .defer _ => false | _ => true
theorem plainOps_spec {ops : Array Oper} (h : plainOps ops = true) (j : Nat) (o : Oper) (ho : ops[j]? = some o) : (∀ cs b, o.op ≠ .select cs b) ∧ ∀ c, o.op ≠ .defer c := by
  have := Array.all_eq_true_iff_forall_mem.1 h o (Array.mem_of_getElem? ho)
  exact ⟨fun cs b heq => by simp [heq] at this, fun c heq => by simp [heq] at this⟩
def wpAnyF (ro : Option Nat) (P : Program) (md : Region.Mode) (ops : Array Oper) (Q : Exit → Act → World → Prop) (S : World → Prop) (fin : List Nat) : Nat → Array Bool → Act → World → Prop
  | 0, listed, a, w => Region.ready md ops listed = [] ∧ Q .normal a w
  | fuel + 1, listed, a, w =>
    (Region.ready md ops listed = [] → Q .normal a w) ∧
    ∀ i ∈ Region.ready md ops listed, wpOpIn (fenceR ro) 0 P ops Q i (fun a' w' => (i ∈ fin ∨ S w') ∧ wpAnyF ro P md ops Q S fin fuel (listed.setIfInBounds i true) a' w') a w
section
variable {ro : Option Nat} {P : Program} {ops : Array Oper} {Q : Exit → Act → World → Prop} {md : Region.Mode} {S : World → Prop} {fin : List Nat}
theorem wpAny_of_F : ∀ (fuel : Nat) (listed : Array Bool) (a : Act) (w : World), wpAnyF ro P md ops Q S fin fuel listed a w → wpAnyIn (fenceR ro) 0 P md ops Q fuel listed a w
  | 0, _, _, _, h => h
  | fuel + 1, _, _, _, h => ⟨h.1, fun i hi => wpOpIn_mono (fun a' w' h' => wpAny_of_F fuel _ a' w' h'.2) (h.2 i hi)⟩
def dirB (md : Region.Mode) (ops : Array Oper) (f i : Nat) : Bool := match ops[f]? with
  | some o => o.after.any fun e => Region.binds md e && e.on == i
  | none => true
theorem dirB_spec {i f : Nat} {listed : Array Bool} (h : dirB md ops f i = true) (hr : f ∈ Region.ready md ops listed) (hi : listed.getD i true = false) : False := by
  obtain ⟨_, o, ho, hall⟩ := mem_ready.1 hr
  unfold dirB at h
  rw [ho] at h
  obtain ⟨e, he, hb⟩ := Array.any_eq_true'.1 h
  simp only [Bool.and_eq_true, beq_iff_eq] at hb
  have h2 := hall e he hb.1
  rw [hb.2] at h2
  rcases Nat.lt_or_ge i listed.size with h' | h'
  · simp [h'] at hi h2; rw [hi] at h2; cases h2
  · simp [Array.getElem?_eq_none h'] at h2
def depB (md : Region.Mode) (ops : Array Oper) (listed : Array Bool) : Nat → Nat → Nat → Bool
  | 0, f, i => dirB md ops f i
  | n + 1, f, i => dirB md ops f i || (List.range ops.size).any fun k => dirB md ops f k && (!listed.getD k true && depB md ops listed n k i)
def waitsB (md : Region.Mode) (ops : Array Oper) (fin : List Nat) (listed : Array Bool) (i : Nat) : Bool :=
  fin.all fun f => listed.getD f true || depB md ops listed 3 f i
theorem depB_spec {i : Nat} {listed : Array Bool} (hi : listed.getD i true = false) : ∀ {n f : Nat}, depB md ops listed n f i = true → f ∈ Region.ready md ops listed → False
  | 0, f, h, hr => dirB_spec h hr hi
  | n + 1, f, h, hr => by
    simp only [depB, Bool.or_eq_true, List.any_eq_true, Bool.and_eq_true, Bool.not_eq_true'] at h
    rcases h with h | ⟨k, _, h1, h2, _⟩
    · exact dirB_spec h hr hi
    · exact dirB_spec h1 hr h2
theorem depB_step {i j : Nat} {listed : Array Bool} (hj : j ∈ Region.ready md ops listed) (hi : listed.getD i true = false) : ∀ {n f : Nat}, depB md ops listed n f i = true → depB md ops (listed.setIfInBounds j true) n f i = true
  | 0, f, h => h
  | n + 1, f, h => by
    simp only [depB, Bool.or_eq_true, List.any_eq_true, Bool.and_eq_true, Bool.not_eq_true'] at h ⊢
    rcases h with h | ⟨k, hk, h1, h2, h3⟩
    · exact .inl h
    · have hjk : j ≠ k := fun hh => depB_spec hi h3 (hh ▸ hj)
      exact .inr ⟨k, hk, h1, by rw [getD_set_ne true hjk]; exact h2, depB_step hj hi h3⟩
theorem waitsB_spec {i f : Nat} {listed : Array Bool} (h : waitsB md ops fin listed i = true) (hf : f ∈ fin) (hr : f ∈ Region.ready md ops listed) (hi : listed.getD i true = false) : False := by
  have h1 := List.all_eq_true.1 h f hf
  simp only [Bool.or_eq_true] at h1
  rcases h1 with h1 | h1
  · have h2 := (mem_ready.1 hr).1
    rw [h1] at h2; cases h2
  · exact depB_spec hi h1 hr
theorem waitsB_step {i j : Nat} {listed : Array Bool} (h : waitsB md ops fin listed i = true) (hj : j ∈ Region.ready md ops listed) (hi : listed.getD i true = false) : waitsB md ops fin (listed.setIfInBounds j true) i = true := by
  refine List.all_eq_true.2 fun f hf => ?_
  have h1 := List.all_eq_true.1 h f hf
  simp only [Bool.or_eq_true] at h1 ⊢
  rcases h1 with h1 | h1
  · by_cases hjf : j = f
    · subst hjf
      have h9 := (mem_ready.1 hj).1
      rw [h1] at h9; cases h9
    · left; rw [getD_set_ne true hjf]; exact h1
  · exact .inr (depB_step hj hi h1)
theorem YieldsIf.wpOpIn {i : Nat} {o : Oper} {v : Value} {a : Act} (hd : ∀ c, o.op ≠ .defer c) (hi : ops[i]? = some o) (hy : YieldsIf P ops S o v a)
    {K : Act → World → Prop} {w : World} (hS : S w) (h : K (a.put o.dst v) w) : wpOpIn (fenceR ro) 0 P ops Q i K a w := by
  unfold Go.wpOpIn
  simp only [hi]
  rcases hy with ⟨hw, hv⟩ | ⟨hw, rfl⟩
  · simp only [hw, if_true, Oper.wpIn, Oper.semAt_eq _ _ _ hd, hv w hS, Oper.uponIn]; exact ⟨fun _ _ => trivial, h⟩
  · simp only [hw, Bool.false_eq_true, if_false]; exact ⟨fun _ _ => trivial, h⟩
theorem wpOpIn_putIf {j : Nat} {oi oj : Oper} {v : Value} (hj : ops[j]? = some oj) (hap : oi.apart ops oj = true)
    (hsi : ∀ cs b, oi.op ≠ .select cs b) (hsj : ∀ cs b, oj.op ≠ .select cs b) (hdj : ∀ c, oj.op ≠ .defer c)
    (hQ : ∀ c a w, Q (.panic c) (a.put oi.dst v) w → Q (.panic c) a w) {K : Act → World → Prop} {a : Act} {w : World}
    (hy : YieldsIf P ops S oi v a) (h : wpOpIn (fenceR ro) 0 P ops Q j K (a.put oi.dst v) w) :
    wpOpIn (fenceR ro) 0 P ops Q j (fun a' w' => YieldsIf P ops S oi v a' ∧ K (a'.put oi.dst v) w') a w := by
  obtain ⟨h1, h2, h3⟩ := Oper.apart_spec hap
  have keep : ∀ (a : Act), YieldsIf P ops S oi v a → ∀ u, YieldsIf P ops S oi v (a.put oj.dst u) := fun a hy u =>
    hy.of_same (execOp_put oi hsi a oj.dst u h3) (wanted_put oi a oj.dst u h3)
  have keepD : ∀ d, YieldsIf P ops S oi v { a with defers := d :: a.defers } := fun d => hy.of_same rfl rfl
  unfold wpOpIn at *
  simp only [hj] at *
  rw [wanted_put oj a oi.dst v h1] at h
  split
  · rename_i hw
    simp only [hw, if_true] at h
    unfold Oper.wpIn at *
    refine ⟨fun _ _ => trivial, ?_⟩
    have h := h.2
    rw [Oper.semAt_eq _ _ _ hdj, execOp_put oj hsj a oi.dst v h1] at h
    rw [Oper.semAt_eq _ _ _ hdj]
    generalize (execOp a.eval oj).run P w = r at *
    cases r with
    | ok x w' =>
      cases x <;> simp only [Oper.uponIn] at h ⊢
      case value u => exact ⟨keep a hy u, by rw [← Act.put_comm a v u h2]; exact h⟩
      case skip => exact ⟨keep a hy _, by rw [← Act.put_comm a v undef h2]; exact h⟩
      case defer d =>
        refine ⟨keep _ (keepD d) _, ?_⟩
        rw [← Act.put_comm _ v undef h2, ← Act.put_defers]
        exact h
      case enter f args =>
        refine ⟨h.1, CallsIn.mono h.2 fun e w'' he => ?_⟩
        cases e with
        | returned u => exact ⟨keep a hy u, by rw [← Act.put_comm a v u h2]; exact he⟩
        | panicked c => exact hQ _ _ _ he
        | outgrown => exact he
      case row row args => exact ⟨h.1, RowsIn.mono h.2 fun u w'' he => ⟨keep a hy u, by rw [← Act.put_comm a v u h2]; exact he⟩⟩
      case round l f tmps assign body =>
        refine ⟨h.1, RoundIn.mono h.2 fun e w'' he => ?_⟩
        cases e with
        | returned u => exact ⟨keep a hy u, by rw [← Act.put_comm a v u h2]; exact he⟩
        | panicked c => exact hQ _ _ _ he
        | outgrown => exact he
    | halt x w' =>
      cases x <;> simp only [Oper.uponIn] at h ⊢
      case panic u => exact hQ _ _ _ h
  · rename_i hw
    simp only [hw] at h
    exact ⟨fun _ _ => trivial, keep a hy _, by rw [← Act.put_comm a v undef h2]; exact h.2⟩
theorem wpAnyF_first {i : Nat} {oi : Oper} {v : Value} (hi : ops[i]? = some oi) (hsel : ∀ (j : Nat) (o : Oper), ops[j]? = some o → (∀ cs b, o.op ≠ .select cs b) ∧ ∀ c, o.op ≠ .defer c) 
    (hQ : ∀ c a w, Q (.panic c) (a.put oi.dst v) w → Q (.panic c) a w) :
    ∀ (fuel : Nat) (listed : Array Bool) (a : Act) (w : World), waitsB md ops fin listed i = true →
      (∀ j oj, ops[j]? = some oj → j ≠ i → listed.getD j true = false → (∀ e ∈ oj.after, Region.binds md e = true → e.on ≠ i) → oi.apart ops oj = true) →
      i ∈ Region.ready md ops listed → YieldsIf P ops S oi v a → S w →
      wpAnyF ro P md ops Q S fin fuel (listed.setIfInBounds i true) (a.put oi.dst v) w → wpAnyF ro P md ops Q S fin (fuel + 1) listed a w := by
  intro fuel
  induction fuel with
  | zero =>
    intro listed a w _ _ hr hy hS H
    refine ⟨fun h => (by rw [h] at hr; cases hr), fun j hj => ?_⟩
    by_cases hji : j = i
    · subst hji; exact YieldsIf.wpOpIn (hsel _ _ hi).2 hi hy hS ⟨.inr hS, H⟩
    · have := ready_mono hj hji
      rw [H.1] at this
      cases this
  | succ fuel ih =>
    intro listed a w hfin hfree hr hy hS H
    refine ⟨fun h => (by rw [h] at hr; cases hr), fun j hj => ?_⟩
    by_cases hji : j = i
    · subst hji; exact YieldsIf.wpOpIn (hsel _ _ hi).2 hi hy hS ⟨.inr hS, H⟩
    · have h1 := H.2 j (ready_mono hj hji)
      obtain ⟨hjun, oj, hoj, hall⟩ := mem_ready.1 hj
      have hnot : ∀ e ∈ oj.after, Region.binds md e = true → e.on ≠ i := fun e he hb heq => by
        have h1 := hall e he hb
        have h0 := (mem_ready.1 hr).1
        rw [heq] at h1
        rcases Nat.lt_or_ge i listed.size with h' | h'
        · simp [h'] at h0 h1; rw [h0] at h1; cases h1
        · simp [Array.getElem?_eq_none h'] at h1
      have h2 := wpOpIn_putIf hoj (hfree j oj hoj hji hjun hnot) (hsel i oi hi).1 (hsel j oj hoj).1 (hsel j oj hoj).2 hQ hy h1
      have hfree' : ∀ k ok, ops[k]? = some ok → k ≠ i → (listed.setIfInBounds j true).getD k true = false →
          (∀ e ∈ ok.after, Region.binds md e = true → e.on ≠ i) → oi.apart ops ok = true := fun k ok hk hki hun hno => by
        refine hfree k ok hk hki ?_ hno
        by_cases hjk : j = k
        · subst hjk; exact hjun
        · rw [getD_set_ne true hjk] at hun; exact hun
      refine wpOpIn_mono (fun a' w' h3 => ?_) h2
      have hS' : S w' := by
        rcases h3.2.1 with hf | hs
        · exact (waitsB_spec hfin hf hj (mem_ready.1 hr).1).elim
        · exact hs
      refine ⟨.inr hS', ih (listed.setIfInBounds j true) a' w' (waitsB_step hfin hj (mem_ready.1 hr).1) hfree' (ready_mono hr (Ne.symm hji)) h3.1 hS' ?_⟩
      rw [Array.setIfInBounds_comm _ _ hji]
      exact h3.2.2
theorem wpAnyF_take {i : Nat} {oi : Oper} {v : Value} {fuel : Nat} {listed : Array Bool} {a : Act} {w : World} (hi : ops[i]? = some oi)
    (hs : plainOps ops = true) (hfin : waitsB md ops fin listed i = true) (hf : Region.free md ops listed i = true) (hr : (Region.ready md ops listed).contains i = true)
    (hQ : ∀ c a w, Q (.panic c) (a.put oi.dst v) w → Q (.panic c) a w) (hy : YieldsIf P ops S oi v a) (hS : S w)
    (h : wpAnyF ro P md ops Q S fin fuel (listed.setIfInBounds i true) (a.put oi.dst v) w) : wpAnyF ro P md ops Q S fin (fuel + 1) listed a w :=
  wpAnyF_first hi (plainOps_spec hs) hQ fuel listed a w hfin (Region.free_spec hi hf) (by simpa using hr) hy hS h
theorem wpAnyF_all {rs : List Nat} {fuel : Nat} {listed : Array Bool} {a : Act} {w : World} (hr : Region.ready md ops listed = rs) (hne : rs ≠ [])
    (h : ∀ i ∈ rs, wpOpIn (fenceR ro) 0 P ops Q i (fun a' w' => (i ∈ fin ∨ S w') ∧ wpAnyF ro P md ops Q S fin fuel (listed.setIfInBounds i true) a' w') a w) : wpAnyF ro P md ops Q S fin (fuel + 1) listed a w :=
  ⟨fun h0 => absurd (hr ▸ h0) hne, hr ▸ h⟩
theorem wpAnyF_done {listed : Array Bool} {a : Act} {w : World} (hr : Region.ready md ops listed = []) (h : Q .normal a w) : ∀ fuel, wpAnyF ro P md ops Q S fin fuel listed a w
  | 0 => ⟨hr, h⟩
  | _ + 1 => ⟨fun _ => h, by rw [hr]; simp⟩
theorem wp_region_F {id : Nat} {a : Act} {w : World} (hm : P.follows .mixedOrders = true)
    (h : wpAnyF ro P .any ops Q S fin ops.size (Array.replicate ops.size false) a { w with drawn := w.drawn + 1 }) : (Code.region id ops true).wpIn (fenceR ro) 0 P Q a w :=
  wpIn_region_any hm (wpAny_of_F _ _ _ _ h)
end
def SJ (J : World → Prop) (w : World) : Prop := ∃ m, Sim m w ∧ J m
def RH (P : Program) (ops : Array Oper) (Q : Exit → Act → World → Prop) (J : World → Prop) (fin : List Nat) (fuel : Nat) (listed : Array Bool) (n : Nat) (e : Env) (D : Fr) (m : World) : Prop :=
  ∀ a w, Fits n e D a → Sim m w → J m → wpAnyF D.ro P .any ops Q (SJ J) fin fuel listed a w
def RF (P : Program) (ops : Array Oper) (Q : Exit → Act → World → Prop) (J : World → Prop) (fin : List Nat) (fuel : Nat) (listed : Array Bool) (n : Nat) (e : Env) (D : Fr) (m : World) : Prop :=
  ∀ a w, Fits n e D a → Sim m w → wpAnyF D.ro P .any ops Q (SJ J) fin fuel listed a w
def PanicOk (Q : Exit → Act → World → Prop) : Prop := ∀ (c : List PanicEntry) (a : Act) (w : World) (d : Option Tmp) (v : Value), Q (.panic c) (a.put d v) w → Q (.panic c) a w
theorem put_defers (a : Act) (d : Option Tmp) (v : Value) : (a.put d v).defers = a.defers := by cases d <;> rfl
theorem PanicOk.body {P : Program} {fn : Func} {post : Ending → World → Prop} : PanicOk (bodyQ P fn post) := fun c a w d v h => by
  obtain ⟨h1, h2⟩ := h
  exact ⟨(put_defers a d v).symm.trans h1, h2⟩
def setAll (listed : Array Bool) : List Nat → Array Bool
  | [] => listed
  | i :: r => setAll (listed.setIfInBounds i true) r
def takesB (ops : Array Oper) (fin : List Nat) : Array Bool → List Nat → Bool
  | _, [] => true
  | listed, i :: r => (waitsB .any ops fin listed i && Region.free .any ops listed i) && (Region.ready .any ops listed).contains i && takesB ops fin (listed.setIfInBounds i true) r
def runPI (T : Ty) (ops : Array Oper) (n : Nat) : List Nat → Env → Option Env
  | [], e => some e
  | i :: r, e => match ops[i]? with
    | some o => match gd ops e o with
      | some true => match pv T e o.op with
        | some v => match putE n o.dst v e with
          | some e' => runPI T ops n r e'
          | none => none
        | none => none
      | some false => match putE n o.dst undef e with
        | some e' => runPI T ops n r e'
        | none => none
      | none => none
    | none => none
section
variable {P : Program} {T : Ty} {ops : Array Oper} {Q : Exit → Act → World → Prop} {J : World → Prop} {fin : List Nat} {fuel : Nat} {listed : Array Bool} {n : Nat} {e e' : Env} {D : Fr} {m : World} {v : Value}
theorem WP.draw {id : Nat} {l : List Oper} (J : World → Prop) (fin : List Nat) (hm : P.follows .mixedOrders = true) (hJ : J m) (h : RH P l.toArray Q J fin l.length (Array.replicate l.length false) n e D m) : WP P (.region id l.toArray true) Q n e D m :=
  fun a w hf hs => wp_region_F (S := SJ J) (fin := fin) hm (by simpa using h a { w with drawn := w.drawn + 1 } hf hs.drew hJ)
def calm (Q : Exit → Act → World → Prop) : Exit → Act → World → Prop
  | .panic _, _, _ => False
  | ex, a, w => Q ex a w
theorem PanicOk.calm : PanicOk (calm Q) := fun _ _ _ _ _ h => h
theorem WP.calm {c : Code} {D : Fr} (h : WP P c (calm Q) n e D m) : WP P c Q n e D m := fun a w hf hs => wpIn_mono (h a w hf hs) (fun ex a w hq => by
  cases ex with
  | panic ch => exact hq.elim
  | _ => exact hq)
theorem QN.calm {D : Fr} (h : QN Q .normal n e D m) : QN (calm Q) .normal n e D m := h
theorem PanicOk.then_ {K : Act → World → Prop} (h : PanicOk Q) : PanicOk (Exit.then K Q) := h
theorem PanicOk.block_ {id : Nat} (h : PanicOk Q) : PanicOk (Exit.inBlock id Q) := h
theorem WP.drawQ {id : Nat} {l : List Oper} (J : World → Prop) (fin : List Nat) (hm : P.follows .mixedOrders = true) (hJ : J m) (hQ : PanicOk Q) (h : PanicOk Q → RH P l.toArray Q J fin l.length (Array.replicate l.length false) n e D m) : WP P (.region id l.toArray true) Q n e D m := WP.draw J fin hm hJ (h hQ)
theorem RH.take {i : Nat} {oi : Oper} (hi : ops[i]? = some oi) (hs : plainOps ops = true) (hff : waitsB .any ops fin listed i = true ∧ Region.free .any ops listed i = true) (hr : (Region.ready .any ops listed).contains i = true) (hQ : PanicOk Q)
    (hy : ∀ a, Fits n e D a → YieldsIf P ops (SJ J) oi v a) (hp : putE n oi.dst v e = some e') (h : RH P ops Q J fin fuel (listed.setIfInBounds i true) n e' D m) : RH P ops Q J fin (fuel + 1) listed n e D m :=
  fun a w hfi hw hj => by
    exact wpAnyF_take hi hs hff.1 hff.2 hr (fun c a w hh => hQ c a w _ _ hh) (hy a hfi) ⟨m, hw, hj⟩ (h _ w (hfi.put hp) hw hj)
theorem runPI_sound (hT : T.Ok P) (hs : plainOps ops = true) (hQ : PanicOk Q) : ∀ (is : List Nat) (listed : Array Bool) (e e' : Env), takesB ops fin listed is = true → runPI T ops n is e = some e' →
    RH P ops Q J fin fuel (setAll listed is) n e' D m → RH P ops Q J fin (fuel + is.length) listed n e D m
  | [], listed, e, e', _, h, hk => by simp only [runPI, Option.some.injEq] at h; subst h; exact hk
  | i :: r, listed, e, e', hB, h, hk => by
    simp only [takesB, Bool.and_eq_true] at hB
    unfold runPI at h
    split at h
    · rename_i o ho
      split at h
      · rename_i hg
        split at h
        · rename_i v hv
          split at h
          · rename_i e1 he1
            exact RH.take ho hs hB.1.1 hB.1.2 hQ (fun a hf => .inl ⟨gd_sound hf hg, fun w _ => pv_sound hT hf hv w⟩) he1 (runPI_sound hT hs hQ r _ e1 e' hB.2 h hk)
          · cases h
        · cases h
      · rename_i hg
        split at h
        · rename_i e1 he1
          exact RH.take ho hs hB.1.1 hB.1.2 hQ (fun a hf => .inr ⟨gd_sound hf hg, rfl⟩) he1 (runPI_sound hT hs hQ r _ e1 e' hB.2 h hk)
        · cases h
      · cases h
    · cases h
theorem RH.pure (hT : T.Ok P) (hQ : PanicOk Q) (is : List Nat) (hB : (plainOps ops && takesB ops fin listed is) = true) (h : runPI T ops n is e = some e') (hk : RH P ops Q J fin fuel (setAll listed is) n e' D m) : RH P ops Q J fin (fuel + is.length) listed n e D m := by
  simp only [Bool.and_eq_true] at hB
  exact runPI_sound hT hB.1 hQ is listed e e' hB.2 h hk
theorem RH.load (hT : T.Ok P) (hQ : PanicOk Q) (i : Nat) {d : Option Tmp} {t ty : TypeId} {x : Operand} {pos : String} {aft : Array Edge} {g : Option (Nat × Bool)} {p : Addr} (hc : ∀ m', J m' → m'.cell? p = some v)
    (hi : ops[i]? = some ⟨d, .load t x, ty, pos, aft, g⟩) (hB : (plainOps ops && takesB ops fin listed [i]) = true) (hg : gd ops e ⟨d, .load t x, ty, pos, aft, g⟩ = some true) (hx : e.ev x = some (.pointer (some p))) (ht : T.plain t = true)
    (hp : putE n d v e = some e') (h : RH P ops Q J fin fuel (listed.setIfInBounds i true) n e' D m) : RH P ops Q J fin (fuel + 1) listed n e D m := by
  simp only [takesB, Bool.and_eq_true, Bool.and_true] at hB
  obtain ⟨r, hr, hk, ha, _⟩ := Ty.plain_spec ht
  refine RH.take hi hB.1 hB.2.1 hB.2.2 hQ (fun a hf => .inl ⟨gd_sound hf hg, fun w ⟨m', hs, hj⟩ => ?_⟩) hp h
  have h1 := (hT.row hr).run_isAgg hk w
  rw [ha] at h1
  simp [execOp, hf.ev hx, Instr.loadAt, Instr.sureAddr, loadVar, h1, hs.cell, hc m' hj]
theorem RH.loadAgg (hT : T.Ok P) (hQ : PanicOk Q) (i : Nat) {d : Option Tmp} {t ty : TypeId} {x : Operand} {pos : String} {aft : Array Edge} {g : Option (Nat × Bool)} {p : Addr} (vs : List Value) (hc : ∀ m', J m' → ∀ j u, vs[j]? = some u → m'.cell? (p.add j) = some u)
    (hi : ops[i]? = some ⟨d, .load t x, ty, pos, aft, g⟩) (hB : (plainOps ops && takesB ops fin listed [i]) = true) (hg : gd ops e ⟨d, .load t x, ty, pos, aft, g⟩ = some true) (hx : e.ev x = some (.pointer (some p))) (ht : T.aggN t = some vs.length)
    (hp : putE n d (.agg vs.toArray) e = some e') (h : RH P ops Q J fin fuel (listed.setIfInBounds i true) n e' D m) : RH P ops Q J fin (fuel + 1) listed n e D m := by
  simp only [takesB, Bool.and_eq_true, Bool.and_true] at hB
  obtain ⟨r, hr, ha, hsz⟩ := Ty.aggN_spec ht
  refine RH.take hi hB.1 hB.2.1 hB.2.2 hQ (fun a hf => .inl ⟨gd_sound hf hg, fun w ⟨m', hs, hj⟩ => ?_⟩) hp h
  have h1 := (hT.row hr).run_isAgg (TyK.known_of_agg ha) w
  rw [ha] at h1
  have h2 := (hT.row hr).run_size w
  rw [hsz] at h2
  have h3 := run_loadCells_list (P := P) w p vs (fun j u hu => (hs.cell _).trans (hc m' hj j u hu))
  simp [execOp, hf.ev hx, Instr.loadAt, Instr.sureAddr, loadVar, h1, h2, h3]
theorem RH.indexAddr (hT : T.Ok P) (hQ : PanicOk Q) (i : Nat) {d : Option Tmp} {t te ty : TypeId} {x y : Operand} {pos : String} {aft : Array Edge} {g : Option (Nat × Bool)} {ad : Addr} {len cap k : Nat} {j : Int} {kk : IntKind} {rt r : Row}
    (hi : ops[i]? = some ⟨d, .indexAddr t x y, ty, pos, aft, g⟩) (hB : (plainOps ops && takesB ops fin listed [i]) = true) (hrt : T.row t = some rt) (hk : rt.k = .sli te) (hr : T.row te = some r)
    (hg : gd ops e ⟨d, .indexAddr t x y, ty, pos, aft, g⟩ = some true) (hx : e.ev x = some (.slice (some ad) len cap)) (hy : e.ev y = some (.int kk j)) (hj : j = (k : Int)) (hlt : k < len)
    (hp : putE n d (.pointer (some (ad.add (k * r.size)))) e = some e') (h : RH P ops Q J fin fuel (listed.setIfInBounds i true) n e' D m) : RH P ops Q J fin (fuel + 1) listed n e D m := by
  simp only [takesB, Bool.and_eq_true, Bool.and_true] at hB
  subst hj
  have hu := (hT.row hrt).k
  rw [hk] at hu
  refine RH.take hi hB.1 hB.2.1 hB.2.2 hQ (fun a hf => .inl ⟨gd_sound hf hg, fun w ⟨m', hs, hj⟩ => ?_⟩) hp h
  simp [execOp, hf.ev hx, hf.ev hy, Instr.indexAt, asIntOf, run_underlying hu, (hT.row hr).run_size, hlt]
def onlyK (ro : Option Nat) (P : Program) (ops : Array Oper) (Q : Exit → Act → World → Prop) (J : World → Prop) (fin : List Nat) (i : Nat) (fuel : Nat) (listed : Array Bool) : Act → World → Prop := fun a w => (i ∈ fin ∨ SJ J w) ∧ wpAnyF ro P .any ops Q (SJ J) fin fuel listed a w
theorem RF.only (i : Nat) {o : Oper} (hi : ops[i]? = some o) (hr : (Region.ready .any ops listed == [i]) = true) (h : RL P ops (Exit.then (onlyK D.ro P ops Q J fin i fuel (listed.setIfInBounds i true)) Q) [o] n e D m) : RF P ops Q J fin (fuel + 1) listed n e D m := by
  intro a w hf hw
  have hr' : Region.ready .any ops listed = [i] := eq_of_beq hr
  refine wpAnyF_all hr' (by simp) (fun i' hi' => ?_)
  have : i' = i := by simpa using hi'
  subst this
  have h1 := h a w hf hw
  unfold wpOpIn
  simp only [hi]
  unfold wpListIn at h1
  split
  · rename_i hwa
    rw [if_pos hwa] at h1
    refine ⟨fun _ _ => trivial, ?_⟩
    have h1 := h1.2
    change Oper.uponIn (fenceR D.ro) 0 P o a _ _ ((Oper.semAt (fenceR D.ro).round a.eval o).run P w) at h1
    generalize (Oper.semAt (fenceR D.ro).round a.eval o).run P w = r at *
    cases r with
    | ok x w' =>
      cases x <;> simp only [Oper.uponIn] at h1 ⊢
      case value u => exact h1
      case skip => exact h1
      case defer d => exact h1
      case enter f args =>
        refine ⟨h1.1, CallsIn.mono h1.2 fun e w'' he => ?_⟩
        cases e with
        | returned u => exact he
        | panicked c => exact he
        | outgrown => obtain ⟨a0, w0, h2⟩ := he; exact ⟨a0, w0, h2⟩
      case row row args => exact ⟨h1.1, RowsIn.mono h1.2 fun u w'' he => he⟩
      case round l f tmps assign body =>
        refine ⟨h1.1, RoundIn.mono h1.2 fun e w'' he => ?_⟩
        cases e with
        | returned u => exact he
        | panicked c => exact he
        | outgrown => obtain ⟨a0, w0, h2⟩ := he; exact ⟨a0, w0, h2⟩
    | halt x w' =>
      cases x <;> simp only [Oper.uponIn] at h1 ⊢
      case panic u => exact h1
  · rename_i hwa
    rw [if_neg hwa] at h1
    exact ⟨fun _ _ => trivial, h1.2⟩
theorem RH.only (i : Nat) {o : Oper} (hi : ops[i]? = some o) (hr : (Region.ready .any ops listed == [i]) = true) (h : J m → RL P ops (Exit.then (onlyK D.ro P ops Q J fin i fuel (listed.setIfInBounds i true)) Q) [o] n e D m) : RH P ops Q J fin (fuel + 1) listed n e D m :=
  fun a w hf hw hj => RF.only i hi hr (h hj) a w hf hw
theorem RH.cont {i : Nat} (hj : J m) (h : RH P ops Q J fin fuel listed n e D m) : QN (Exit.then (onlyK D.ro P ops Q J fin i fuel listed) Q) .normal n e D m := fun a w hf hw => ⟨.inr ⟨m, hw, hj⟩, h a w hf hw hj⟩
theorem RF.cont {i : Nat} (hi : fin.contains i = true) (h : RF P ops Q J fin fuel listed n e D m) : QN (Exit.then (onlyK D.ro P ops Q J fin i fuel listed) Q) .normal n e D m := fun a w hf hw => ⟨.inl (by simpa using hi), h a w hf hw⟩
theorem RF.done (hr : (Region.ready .any ops listed).isEmpty = true) (h : QN Q .normal n e D m) : RF P ops Q J fin fuel listed n e D m := fun a w hf hw => wpAnyF_done (by simpa using hr) (h a w hf hw) fuel
theorem RH.done (hr : (Region.ready .any ops listed).isEmpty = true) (h : J m → QN Q .normal n e D m) : RH P ops Q J fin fuel listed n e D m := fun a w hf hw hj => wpAnyF_done (by simpa using hr) (h hj a w hf hw) fuel
theorem RF.last {i : Nat} (hB : (fin.contains i && (Region.ready .any ops listed).isEmpty) = true) (h : QN Q .normal n e D m) : QN (Exit.then (onlyK D.ro P ops Q J fin i fuel listed) Q) .normal n e D m := by
  simp only [Bool.and_eq_true] at hB
  exact RF.cont hB.1 (RF.done hB.2 h)
end
end Go.Ev
end
section
namespace Go.Ev
open Go.RowKit
def DfE (P : Program) (f : FuncId) (args : List Value) (u : FrameMode) (m : World) (post : Ending → FrameMode → World → Prop) : Prop :=
  Callable P f ∧ ∀ w, Sim m w → CallsD P f args.toArray u w fun e u' w' => ∃ m', Sim m' w' ∧ post e u' m'
def recV : FrameMode → Value
  | .panicking ({ v, recovered := false, goexit := false } :: _) => v
  | _ => .nilIface
def recU : FrameMode → FrameMode
  | .panicking ({ v, recovered := false, goexit := false } :: older) => .panicking ({ v, recovered := true } :: older)
  | u => u
theorem recoverD_eq (c : Frame) (cs : List Frame) : (recoverD (c :: cs) = some (recV c.mode, { c with mode := recU c.mode } :: cs)) ∨ (recoverD (c :: cs) = none ∧ recV c.mode = .nilIface ∧ recU c.mode = c.mode) := by
  obtain ⟨fn, tmps, todo, defers, mode, kind, ro⟩ := c
  cases mode with
  | panicking ch =>
    cases ch with
    | nil => exact .inr ⟨rfl, rfl, rfl⟩
    | cons p older =>
      obtain ⟨v, r, g⟩ := p
      cases r <;> cases g
      · exact .inl rfl
      · exact .inr ⟨rfl, rfl, rfl⟩
      · exact .inr ⟨rfl, rfl, rfl⟩
      · exact .inr ⟨rfl, rfl, rfl⟩
  | run => exact .inr ⟨rfl, rfl, rfl⟩
  | returning => exact .inr ⟨rfl, rfl, rfl⟩
section
variable {P : Program} {f : FuncId} {fn : Func} {args : List Value} {m : World} {u : FrameMode}
theorem args_fits (h : Nat.ble args.length fn.ntmps = true) : Fits fn.ntmps (argsEnv 0 args) ⟨[], none⟩ { tmps := args.toArray ++ Array.replicate (fn.ntmps - args.toArray.size) undef, defers := [] } :=
  ⟨by have := Nat.le_of_ble_eq_true h; simp; omega, rfl, fun t v ht => by
    obtain ⟨_, h2⟩ := argsEnv_get args 0 t v ht
    simp only [Nat.sub_zero] at h2
    have hlt : t < args.length := (List.getElem?_eq_some_iff.1 h2).1
    rw [Array.getElem?_append_left (by simpa using hlt)]
    simpa using h2⟩
theorem DfE.enter {c : Code} {id : Nat} {d : Tmp} {ts : Array TypeId} {ty : TypeId} {pos : String} {aft : Array Edge} {post : Ending → FrameMode → World → Prop} (hc : Callable P f)
    (hf : P.funcs[f]? = some fn) (hb : fn.body = some (.seq (.region id #[⟨some d, .call ⟨.builtin .recover, #[], ts⟩, ty, pos, aft, none⟩] false) c)) (hn : Nat.ble args.length fn.ntmps = true) (hd : Nat.blt d fn.ntmps = true)
    (h : WP P c (bodyQ P fn fun e m' => post e (recU u) m') fn.ntmps ((d, recV u) :: argsEnv 0 args) ⟨[], none⟩ m) : DfE P f args u m post := by
  refine ⟨hc, fun w hs => callsD_of_wpS hf hb fun c₀ cs hu => ?_⟩
  subst hu
  refine wpS_seq (wpS_region ?_)
  have hrun : ∀ (a : Act) (w : World), (execOp a.eval (⟨some d, .call ⟨.builtin .recover, #[], ts⟩, ty, pos, aft, none⟩ : Oper)).run P w = .ok .recover w := by
    intro a w
    simp [execOp, resolve, invoke, builtin]
  have hfin : ∀ cs', cs' = { c₀ with mode := recU c₀.mode } :: cs →
      c.wpS P (bodyPostS P fn c₀ cs fun e u' w' => ∃ m', Sim m' w' ∧ post e u' m') (Act.put { tmps := args.toArray ++ Array.replicate (fn.ntmps - args.toArray.size) undef, defers := [] } (some d) (recV c₀.mode)) cs' w := by
    intro cs' hcs
    refine wpS_of_wp (wp_mono (WP.wp h _ w ((args_fits hn).put (by simp [putE, hd])) hs) fun ex a' w' hq => ?_)
    subst hcs
    cases ex with
    | normal => obtain ⟨h1, v, h2, m', h3, h4⟩ := hq; exact ⟨h1, _, rfl, v, h2, m', h3, h4⟩
    | ret => obtain ⟨h1, v, h2, m', h3, h4⟩ := hq; exact ⟨h1, _, rfl, v, h2, m', h3, h4⟩
    | panic ch => obtain ⟨h1, m', h3, h4⟩ := hq; exact ⟨h1, _, rfl, m', h3, h4⟩
    | outgrown => obtain ⟨m', h3, h4⟩ := hq; exact ⟨_, m', h3, h4⟩
    | exit id => exact hq
    | goto l => exact hq
  show wpOpsS P _ _ [0] _ _ _
  unfold wpOpsS
  simp only [List.getElem?_toArray, List.getElem?_cons_zero, Region.wanted, if_true, hrun]
  rcases recoverD_eq c₀ cs with hr | ⟨hr, hv, hu⟩
  · rw [hr]
    exact hfin _ rfl
  · rw [hr]
    simp only
    have := hfin (c₀ :: cs) (by rw [hu])
    rw [hv] at this
    exact this
def bodyQD (P : Program) (fn : Func) (post : Ending → World → Prop) : Exit → Act → World → Prop := bodyPostD P fn fun e w' => ∃ m', Sim m' w' ∧ post e m'
theorem FnE.enterD {c : Code} {post : Ending → World → Prop} (hc : Callable P f)
    (hf : P.funcs[f]? = some fn) (hb : fn.body = some c) (hn : Nat.ble args.length fn.ntmps = true) (h : WP P c (bodyQD P fn post) fn.ntmps (argsEnv 0 args) ⟨[], none⟩ m) : FnE P f args m post :=
  ⟨hc, fun w hs => calls_of_wp_defers hf hb (WP.wp h _ w (args_fits hn) hs)⟩
theorem RL.defer {ops : Array Oper} {Q : Exit → Act → World → Prop} {rest : List Oper} {n : Nat} {e e' : Env} {ds : List Deferred} {d : Option Tmp} {x : Operand} {ts : Array TypeId} {ty : TypeId} {pos : String} {aft : Array Edge} {g : Option (Nat × Bool)} {k : Fn} {fi ca : Array Value}
    (hg : gd ops e ⟨d, .defer ⟨.value x, #[], ts⟩, ty, pos, aft, g⟩ = some true) (hx : e.ev x = some (.func k fi ca)) (hp : putE n d undef e = some e')
    (h : RL P ops Q rest n e' ⟨{ target := .fn k ca, args := fi } :: ds, none⟩ m) : RL P ops Q (⟨d, .defer ⟨.value x, #[], ts⟩, ty, pos, aft, g⟩ :: rest) n e ⟨ds, none⟩ m := by
  refine RL.step hg fun a w hf hs => ⟨fun _ _ => trivial, ?_⟩
  have : (execOp a.eval (⟨d, .defer ⟨.value x, #[], ts⟩, ty, pos, aft, g⟩ : Oper)).run P w = .ok (.defer { target := .fn k ca, args := fi }) w := by
    simp [execOp, resolve, hf.ev hx, Deferred.ofValue]
  show Oper.uponIn _ _ _ _ _ _ _ ((execOp a.eval (⟨d, .defer ⟨.value x, #[], ts⟩, ty, pos, aft, g⟩ : Oper)).run P w)
  rw [this]
  have hf' : Fits n e ⟨{ target := .fn k ca, args := fi } :: ds, none⟩ { a with defers := { target := .fn k ca, args := fi } :: a.defers } := ⟨hf.size, by show _ = _ :: ds; rw [hf.defers], hf.get⟩
  exact h _ w (hf'.put hp) hs
def Res (P : Program) (fn : Func) (n : Nat) (e : Env) (D : Fr) (m : World) (v : Value) : Prop := ∀ a w, Fits n e D a → Sim m w → (results fn a.tmps).run P w = .ok v w
theorem Res.cell {T : Ty} (hT : T.Ok P) {n : Nat} {e : Env} {D : Fr} {t : Tmp} {ty : TypeId} {p : Addr} {v : Value} (hr : fn.results = #[.cell t ty]) (ht : e.get t = some (.pointer (some p))) (hty : T.plain ty = true) (hc : m.cell? p = some v) : Res P fn n e D m v := by
  intro a w hf hs
  obtain ⟨r, hr', hk, ha, _⟩ := Ty.plain_spec hty
  have h1 := (hT.row hr').run_isAgg hk w
  rw [ha] at h1
  simp [results, hr, hf.get t _ ht, asAddr, loadVar, h1, hs.cell, hc]
theorem Res.tmp {n : Nat} {e : Env} {D : Fr} {t : Tmp} {v : Value} (hr : fn.results = #[.tmp t]) (ht : e.get t = some v) : Res P fn n e D m v := by
  intro a w hf _
  rw [results_tmp hr, getD_of_some (hf.get t v ht)]
theorem invoke_fn (hc : Callable P f) (fi ca : Array Value) (w : World) : (invoke (.fn (.func f) ca) fi).run P w = .ok (.enter f (fi ++ ca)) w := by
  obtain ⟨fn, h1, h2, h3⟩ := hc
  simp only [invoke, callFunc, Sem.run_bind, run_program, Result.andThen_ok, h1, h2, h3, Bool.false_eq_true, if_false, Sem.run_pure]
theorem QN.leave {n : Nat} {e : Env} {x : Exit} {fi ca al : List Value} {post : Ending → World → Prop} {dpost : Ending → FrameMode → World → Prop} (hu : (x = .ret ∧ u = .returning) ∨ (x = .normal ∧ u = .returning) ∨ ∃ ch, x = .panic ch ∧ u = .panicking ch)
    (has : fi ++ ca = al) (hc : DfE P f al u m dpost)
    (hret : ∀ v u' m', dpost (.returned v) u' m' → (settle u' = .returning ∧ ∃ r, Res P fn n e ⟨[{ target := .fn (.func f) ca.toArray, args := fi.toArray }], none⟩ m' r ∧ post (.returned r) m') ∨ ∃ ch, settle u' = .panicking ch ∧ post (.panicked ch) m')
    (hpan : ∀ ch u' m', dpost (.panicked ch) u' m' → ∃ ch', raised u' ch = .panicking ch' ∧ post (.panicked ch') m') (hout : ∀ u' m', ¬ dpost .outgrown u' m') :
    QN (bodyQD P fn post) x n e ⟨[{ target := .fn (.func f) ca.toArray, args := fi.toArray }], none⟩ m := by
  intro a w hf hs
  subst has
  have key : Leaves P fn a.tmps (fun e w' => ∃ m', Sim m' w' ∧ post e m') a.defers u w := by
    rw [hf.defers]
    have hu' : u ≠ .run := by rcases hu with ⟨_, rfl⟩ | ⟨_, rfl⟩ | ⟨ch, _, rfl⟩ <;> simp
    refine leaves_cons hu' (invoke_fn hc.1 _ _ w) ?_
    have h1 := hc.2 w hs
    rw [show (fi ++ ca).toArray = fi.toArray ++ ca.toArray by simp] at h1
    refine h1.mono fun ed u' w' ⟨m', hs', hp⟩ => ?_
    cases ed with
    | returned v =>
      rcases hret v u' m' hp with ⟨h2, r, h3, h4⟩ | ⟨ch, h2, h4⟩
      · simp only [h2]; exact ⟨r, h3 a w' hf hs', m', hs', h4⟩
      · simp only [h2]; exact ⟨m', hs', h4⟩
    | panicked ch =>
      obtain ⟨ch', h2, h4⟩ := hpan ch u' m' hp
      simp only [h2]
      exact ⟨m', hs', h4⟩
    | outgrown => exact absurd hp (hout u' m')
  rcases hu with ⟨rfl, rfl⟩ | ⟨rfl, rfl⟩ | ⟨ch, rfl, rfl⟩
  · exact key
  · exact key
  · exact key
end
end Go.Ev
end
