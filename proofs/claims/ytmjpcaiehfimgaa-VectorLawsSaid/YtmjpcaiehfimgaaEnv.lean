/- A walk's state as a short list: temporaries by slot, worlds as variables. No program is named here; no conditions. -/
import Derived.WalkKit
import Derived.TacticsIn
import Derived.Lib.Hide
import Derived.Deep.Quiet
namespace Go.Ev
open Go.RowKit

/-- The temporaries that matter, newest first. -/
abbrev Env := List (Nat × Value)
def Env.get : Env → Nat → Option Value
  | [], _ => none
  | (t, v) :: r, x => match Nat.beq t x with
    | true => some v
    | false => Env.get r x
def Env.ev (e : Env) : Operand → Option Value
  | .tmp t => e.get t
  | .const v => some v
  | .global g => some (.pointer (some ⟨g, 0, none⟩))
  | .func f => some (.func (.func f) #[] #[])
/-- Values of a list of operands. -/
def Env.evs (e : Env) : List Operand → Option (List Value)
  | [] => some []
  | x :: r => match e.ev x with
    | some v => match Env.evs e r with
      | some vs => some (v :: vs)
      | none => none
    | none => none

/-- A frame's make: what is deferred in it; the loop whose round it is, if it is one. -/
structure Fr where
  ds : List Deferred
  ro : Option Nat
def fenceR (ro : Option Nat) : Fence := { Fence.wide with round := ro }

structure Fits (n : Nat) (e : Env) (D : Fr) (a : Act) : Prop where
  size : a.tmps.size = n
  defers : a.defers = D.ds
  get : ∀ t v, e.get t = some v → a.tmps[t]? = some v

/-- Two worlds that part in nothing but the count of draws, which is no less. -/
structure Sim (m w : World) : Prop where
  heap : w.heap = m.heap
  os : w.os = m.os
  output : w.output = m.output
  tape : w.tape = m.tape
  drawn : m.drawn ≤ w.drawn
theorem Sim.refl (w : World) : Sim w w := ⟨rfl, rfl, rfl, rfl, Nat.le_refl _⟩
theorem Sim.trans {a b c : World} (h : Sim a b) (k : Sim b c) : Sim a c := ⟨k.heap.trans h.heap, k.os.trans h.os, k.output.trans h.output, k.tape.trans h.tape, Nat.le_trans h.drawn k.drawn⟩
theorem Sim.drew {m w : World} (h : Sim m w) : Sim m w.drew := ⟨h.heap, h.os, h.output, h.tape, Nat.le_succ_of_le h.drawn⟩
theorem Sim.cell {m w : World} (h : Sim m w) (a : Addr) : w.cell? a = m.cell? a := by simp [World.cell?, h.heap]
theorem Sim.frozen {m w : World} (h : Sim m w) (a : Addr) : w.frozen? a = m.frozen? a := by simp [World.frozen?, h.heap]
theorem Sim.alloc {m w : World} (h : Sim m w) (o : Obj) : Sim (m.alloc o) (w.alloc o) := ⟨by show w.heap.push o = m.heap.push o; rw [h.heap], h.os, h.output, h.tape, h.drawn⟩
theorem Sim.setCell {m w : World} (h : Sim m w) (a : Addr) (v : Value) : Sim (m.setCell a v) (w.setCell a v) := ⟨by simp [World.setCell, h.heap], h.os, h.output, h.tape, h.drawn⟩

section
variable {P : Program} {n : Nat} {e e' : Env} {D : Fr} {a : Act} {v : Value}

theorem getD_of_some {xs : Array Value} {t : Nat} {v : Value} (h : xs[t]? = some v) : xs.getD t undef = v := by
  simp [Array.getD_eq_getD_getElem?, h]
theorem Fits.ev (h : Fits n e D a) {x : Operand} (hx : e.ev x = some v) : a.eval x = v := by
  cases x with
  | tmp t => exact getD_of_some (h.get t v hx)
  | const c => exact Option.some.inj hx
  | global g => exact Option.some.inj hx
  | func f => exact Option.some.inj hx
theorem Fits.evs (h : Fits n e D a) : ∀ {l : List Operand} {vs : List Value}, e.evs l = some vs → l.map a.eval = vs
  | [], vs, hl => by injection hl
  | x :: r, vs, hl => by
    unfold Env.evs at hl
    split at hl
    · rename_i v hv
      split at hl
      · rename_i vs' hvs
        injection hl with hl
        subst hl
        simp [h.ev hv, h.evs hvs]
      · cases hl
    · cases hl

/-- The new temporary ahead of the list; 'none' where there is no such slot. -/
def putE (n : Nat) (dst : Option Tmp) (v : Value) (e : Env) : Option Env :=
  match dst with
  | none => some e
  | some d => match Nat.blt d n with
    | true => some ((d, v) :: e)
    | false => none

theorem Fits.put (h : Fits n e D a) {dst : Option Tmp} (hp : putE n dst v e = some e') : Fits n e' D (a.put dst v) := by
  cases dst with
  | none => simp only [putE, Option.some.injEq] at hp; subst hp; exact h
  | some d =>
    simp only [putE] at hp
    split at hp
    · rename_i hd
      injection hp with hp
      subst hp
      have hd' : d < n := by simpa [Nat.blt_eq] using hd
      refine ⟨by simp [Act.put, h.size], h.defers, fun t u ht => ?_⟩
      simp only [Act.put]
      unfold Env.get at ht
      split at ht
      · rename_i hb
        have : d = t := by simpa using hb
        subst this
        injection ht with ht
        subst ht
        rw [Array.getElem?_setIfInBounds]
        simp [h.size, hd']
      · rename_i hb
        have : d ≠ t := Nat.ne_of_beq_eq_false hb
        rw [Array.getElem?_setIfInBounds]
        simp [this, h.get t u ht]
    · cases hp

/-- Less is known: every entry of the new list stands in the old one. -/
def Sub (e' : Env) (e : Env) : Prop := ∀ p ∈ e', e.get p.1 = some p.2
theorem Sub.nil {e : Env} : Sub [] e := fun _ h => by cases h
theorem Sub.cons {t : Nat} {v : Value} {e' e : Env} (h : e.get t = some v) (hs : Sub e' e) : Sub ((t, v) :: e') e := fun p hp => by
  cases hp with
  | head => exact h
  | tail _ hp => exact hs p hp
theorem Env.get_mem {e : Env} {t : Nat} {v : Value} : e.get t = some v → (t, v) ∈ e := by
  induction e with
  | nil => intro h; cases h
  | cons p r ih =>
    obtain ⟨p1, p2⟩ := p
    intro h
    unfold Env.get at h
    split at h
    · rename_i hb
      have hb : p1 = t := by simpa using hb
      injection h with h
      subst hb; subst h
      exact List.mem_cons_self ..
    · exact List.mem_cons_of_mem _ (ih h)
theorem Fits.sub (h : Fits n e D a) (hs : Sub e' e) : Fits n e' D a :=
  ⟨h.size, h.defers, fun t v ht => h.get t v (hs (t, v) (Env.get_mem ht))⟩

/-- Is an operation's guard fulfilled, by what is known? -/
def gd (ops : Array Oper) (e : Env) (o : Oper) : Option Bool :=
  match o.guard with
  | none => some true
  | some g => match ops[g.1]? with
    | some oj => match oj.dst with
      | some t => match e.get t with
        | some (.bool b) => some (b == g.2)
        | some (.tuple _) => some false
        | _ => none
      | none => some false
    | none => some false
theorem gd_sound {ops : Array Oper} {o : Oper} {b : Bool} (h : Fits n e D a) (hg : gd ops e o = some b) : Region.wanted o (yielded ops a.tmps) = b := by
  unfold gd at hg
  unfold Region.wanted
  split at hg
  · rename_i h0; rw [h0]; simpa using hg
  · rename_i g h0
    obtain ⟨j, want⟩ := g
    rw [h0]
    simp only [yielded]
    split at hg
    · rename_i oj hj
      have hj' : ops[j]? = some oj := hj
      split at hg
      · rename_i t ht
        split at hg
        · rename_i b' hb; simp [hj', ht, h.get t _ hb]; simpa using hg
        · rename_i vs hb; simp [hj', ht, h.get t _ hb]; simpa using hg
        · cases hg
      · rename_i ht; simp [hj', ht]; simpa using hg
    · rename_i hj
      have hj' : ops[j]? = none := hj
      simp [hj']; simpa using hg
end

/-! ### The judgements -/
/-- The operations 'l' of a region 'ops' lead from what is known to 'Q'. -/
def RL (P : Program) (ops : Array Oper) (Q : Exit → Act → World → Prop) (l : List Oper) (n : Nat) (e : Env) (D : Fr) (m : World) : Prop :=
  ∀ a w, Fits n e D a → Sim m w → wpListIn (fenceR D.ro) 0 P ops Q l a w
def WP (P : Program) (c : Code) (Q : Exit → Act → World → Prop) (n : Nat) (e : Env) (D : Fr) (m : World) : Prop :=
  ∀ a w, Fits n e D a → Sim m w → c.wpIn (fenceR D.ro) 0 P Q a w
def QN (Q : Exit → Act → World → Prop) (x : Exit) (n : Nat) (e : Env) (D : Fr) (m : World) : Prop :=
  ∀ a w, Fits n e D a → Sim m w → Q x a w

section
variable {P : Program} {ops : Array Oper} {Q : Exit → Act → World → Prop} {l rest : List Oper} {o : Oper} {n : Nat} {e e' : Env} {D : Fr} {m : World} {c x y : Code}

theorem RL.nil (h : QN Q .normal n e D m) : RL P ops Q [] n e D m := fun a w hf hs => h a w hf hs
theorem RL.sub (hs : Sub e' e) (h : RL P ops Q l n e' D m) : RL P ops Q l n e D m := fun a w hf hw => h a w (hf.sub hs) hw
/-- The newest temporary's value, said otherwise. -/
theorem RL.eqv {t : Nat} {v v' : Value} (hv : v = v') (h : RL P ops Q l n ((t, v') :: e) D m) : RL P ops Q l n ((t, v) :: e) D m := by subst hv; exact h
theorem WP.eqv {t : Nat} {v v' : Value} (hv : v = v') (h : WP P c Q n ((t, v') :: e) D m) : WP P c Q n ((t, v) :: e) D m := by subst hv; exact h
theorem WP.sub (hs : Sub e' e) (h : WP P c Q n e' D m) : WP P c Q n e D m := fun a w hf hw => h a w (hf.sub hs) hw
theorem QN.sub {x : Exit} (hs : Sub e' e) (h : QN Q x n e' D m) : QN Q x n e D m := fun a w hf hw => h a w (hf.sub hs) hw
theorem RL.step (hg : gd ops e o = some true) (h : ∀ a w, Fits n e D a → Sim m w → o.wpIn (fenceR D.ro) 0 P a w (wpListIn (fenceR D.ro) 0 P ops Q rest) Q) : RL P ops Q (o :: rest) n e D m := by
  intro a w hf hs
  unfold wpListIn
  rw [gd_sound hf hg, if_pos rfl]
  exact h a w hf hs
theorem RL.skip (hg : gd ops e o = some false) (hp : putE n o.dst undef e = some e') (h : RL P ops Q rest n e' D m) : RL P ops Q (o :: rest) n e D m := by
  intro a w hf hs
  unfold wpListIn
  rw [gd_sound hf hg, if_neg (by decide)]
  exact ⟨fun _ _ => trivial, h _ w (hf.put hp) hs⟩
/-- An operation that is no deferred call, by its run. -/
theorem RL.run (hg : gd ops e o = some true) (hd : ∀ c, o.op ≠ .defer c) (h : ∀ a w, Fits n e D a → Sim m w → o.uponIn (fenceR D.ro) 0 P a (wpListIn (fenceR D.ro) 0 P ops Q rest) Q ((execOp a.eval o).run P w)) : RL P ops Q (o :: rest) n e D m :=
  RL.step hg fun a w hf hs => ⟨fun _ _ => trivial, by rw [Oper.semAt_eq _ _ _ hd]; exact h a w hf hs⟩
theorem no_defer {o : Oper} {ρ : Operand → Value} {w w' : World} {nx : Next} (h : (execOp ρ o).run P w = .ok nx w') (hn : ∀ d, nx ≠ .defer d) (c : Call) : o.op ≠ .defer c := by
  intro hc
  simp only [execOp, hc, Sem.run_bind] at h
  cases hr : (resolve ρ c o.type).run P w with
  | ok d w1 => rw [hr] at h; simp [Result.andThen] at h; exact hn d h.1.symm
  | halt x w1 => rw [hr] at h; simp [Result.andThen] at h
theorem RL.ofRun (hg : gd ops e o = some true) (h : ∀ a w, Fits n e D a → Sim m w → ∃ nx w', (execOp a.eval o).run P w = .ok nx w' ∧ (∀ d, nx ≠ .defer d) ∧ o.uponIn (fenceR D.ro) 0 P a (wpListIn (fenceR D.ro) 0 P ops Q rest) Q (.ok nx w')) : RL P ops Q (o :: rest) n e D m :=
  RL.step hg fun a w hf hs => by
    obtain ⟨nx, w', h1, h2, h3⟩ := h a w hf hs
    refine ⟨fun _ _ => trivial, ?_⟩
    rw [Oper.semAt_eq _ _ _ (no_defer h1 h2), h1]
    exact h3
/-- An operation that hands back one value and leaves the world. -/
theorem RL.value (v : Value) (hg : gd ops e o = some true) (hr : ∀ a w, Fits n e D a → Sim m w → (execOp a.eval o).run P w = .ok (.value v) w)
    (hp : putE n o.dst v e = some e') (h : RL P ops Q rest n e' D m) : RL P ops Q (o :: rest) n e D m :=
  RL.ofRun hg fun a w hf hs => ⟨_, w, hr a w hf hs, (fun _ hh => by cases hh), h _ w (hf.put hp) hs⟩
/-- An operation that hands back one value and leaves another world. -/
theorem RL.valueW (v : Value) (m' : World) (hg : gd ops e o = some true) (hr : ∀ a w, Fits n e D a → Sim m w → ∃ w', (execOp a.eval o).run P w = .ok (.value v) w' ∧ Sim m' w')
    (hp : putE n o.dst v e = some e') (h : RL P ops Q rest n e' D m') : RL P ops Q (o :: rest) n e D m :=
  RL.ofRun hg fun a w hf hs => by
    obtain ⟨w', h1, h2⟩ := hr a w hf hs
    exact ⟨_, w', h1, (fun _ hh => by cases hh), h _ w' (hf.put hp) h2⟩
theorem RL.skipW (m' : World) (hg : gd ops e o = some true) (hr : ∀ a w, Fits n e D a → Sim m w → ∃ w', (execOp a.eval o).run P w = .ok .skip w' ∧ Sim m' w')
    (hp : putE n o.dst undef e = some e') (h : RL P ops Q rest n e' D m') : RL P ops Q (o :: rest) n e D m :=
  RL.ofRun hg fun a w hf hs => by
    obtain ⟨w', h1, h2⟩ := hr a w hf hs
    exact ⟨_, w', h1, (fun _ hh => by cases hh), h _ w' (hf.put hp) h2⟩
/-- What an operation hands back, and the world, are known by a property alone. -/
theorem RL.valueX {R : Value → World → Prop} (hg : gd ops e o = some true) (hr : ∀ a w, Fits n e D a → Sim m w → ∃ v w' m', (execOp a.eval o).run P w = .ok (.value v) w' ∧ Sim m' w' ∧ R v m')
    (h : ∀ v m', R v m' → ∃ e', putE n o.dst v e = some e' ∧ RL P ops Q rest n e' D m') : RL P ops Q (o :: rest) n e D m :=
  RL.ofRun hg fun a w hf hs => by
    obtain ⟨v, w', m', h1, h2, h3⟩ := hr a w hf hs
    obtain ⟨e', hp, hk⟩ := h v m' h3
    exact ⟨_, w', h1, (fun _ hh => by cases hh), hk _ w' (hf.put hp) h2⟩

/-! ### Code -/
theorem WP.region {id : Nat} {l : List Oper} (h : RL P l.toArray Q l n e D m) : WP P (.region id l.toArray false) Q n e D m :=
  fun a w hf hs => wpIn_region_lit (h a w hf hs)
theorem WP.seq {ds : List Deferred} {ro : Option Nat} (h : WP P x (Exit.then (fun a w => y.wpIn (fenceR ro) 0 P Q a w) Q) n e ⟨ds, ro⟩ m) : WP P (.seq x y) Q n e ⟨ds, ro⟩ m := fun a w hf hs => wpIn_seq (h a w hf hs)
theorem WP.block {id : Nat} (h : WP P c (Exit.inBlock id Q) n e D m) : WP P (.block id c) Q n e D m := fun a w hf hs => wpIn_block (h a w hf hs)
theorem WP.skip (h : QN Q .normal n e D m) : WP P .skip Q n e D m := fun a w hf hs => wpIn_skip (h a w hf hs)
theorem WP.exit {id : Nat} (h : QN Q (.exit id) n e D m) : WP P (.exit id) Q n e D m := fun a w hf hs => wpIn_exit (h a w hf hs)
theorem WP.ret (h : QN Q .ret n e D m) : WP P .ret Q n e D m := fun a w hf hs => wpIn_ret (h a w hf hs)
theorem WP.cond {c : Operand} {b : Bool} (hc : e.ev c = some (.bool b)) (ht : b = true → WP P x Q n e D m) (hf : b = false → WP P y Q n e D m) : WP P (.cond c x y) Q n e D m :=
  fun a w hfi hs => wpIn_cond_split (hfi.ev hc) (fun hb => ht hb a w hfi hs) (fun hb => hf hb a w hfi hs)
theorem WP.condT {c : Operand} (hc : e.ev c = some (.bool true)) (ht : WP P x Q n e D m) : WP P (.cond c x y) Q n e D m :=
  fun a w hfi hs => wpIn_cond_true (hfi.ev hc) (ht a w hfi hs)
theorem WP.condF {c : Operand} (hc : e.ev c = some (.bool false)) (ht : WP P y Q n e D m) : WP P (.cond c x y) Q n e D m :=
  fun a w hfi hs => wpIn_cond_false (hfi.ev hc) (ht a w hfi hs)
/-- A loop: 'X' the ghost state, 'E' what stands in the slots, 'I' what holds. -/
def loopQ {X : Type} (E : X → Env) (I : X → World → Prop) (μ : X → Nat) (n : Nat) (D : Fr) (x : X) (a : Act) (w : World) : Prop :=
  ∃ x' m', Fits n (E x') D a ∧ Sim m' w ∧ I x' m' ∧ μ x' < μ x
theorem WP.loop {X : Type} (E : X → Env) (I : X → World → Prop) (μ : X → Nat) (x0 : X) (hs : Sub (E x0) e) (h0 : I x0 m)
    (round : ∀ x m, I x m → WP P c (Exit.then (loopQ E I μ n D x) Q) n (E x) D m) : WP P (.loop c) Q n e D m := by
  intro a w hf hw b k cs hro hb hr
  have key : ∀ (k' : Nat) (x : X) (a : Act) (w m : World), μ x = k' → Fits n (E x) D a → Sim m w → I x m →
      ∃ ex a' w', Q ex a' w' ∧ ArrivesIn (Machine.fenced P (fenceR D.ro)) P (lone (b.atR a (.code c :: .inLoop c :: k)) cs w) b k cs ex a' w' := by
    intro k'
    induction k' using Nat.strongRecOn with
    | _ k' ih =>
      intro x a w m hk hfa hwa hI
      obtain ⟨ex, a₁, w₁, hq, harr⟩ := round x m hI a w hfa hwa b (.inLoop c :: k) cs hro hb hr
      cases ex with
      | normal =>
        obtain ⟨x', m', hfx, hsx, hIx, hlt⟩ := hq
        obtain ⟨e₂, a₂, w₂, hq₂, harr₂⟩ := ih (μ x') (hk ▸ hlt) x' a₁ w₁ m' rfl hfx hsx hIx
        exact ⟨e₂, a₂, w₂, hq₂, .of_steps (StepsIn.trans harr (.one (fenced_calm hb hr rfl) stepR_inLoop)) harr₂⟩
      | exit id => exact ⟨_, a₁, w₁, hq, .pass (x := .inLoop c) rfl (fun _ _ => .inl (by simp)) harr⟩
      | goto l => exact ⟨_, a₁, w₁, hq, .pass (x := .inLoop c) rfl (fun _ _ => .inl (by simp)) harr⟩
      | ret => exact ⟨_, a₁, w₁, hq, .pass (x := .inLoop c) rfl (fun _ _ => .inl (by simp)) harr⟩
      | panic ch => exact ⟨_, a₁, w₁, hq, .pass (x := .inLoop c) rfl (fun _ _ => .inl (by simp)) harr⟩
      | outgrown => exact ⟨_, a₁, w₁, hq, .pass (x := .inLoop c) rfl (fun _ _ => .inl (by simp)) harr⟩
  obtain ⟨ex, a', w', hq, harr⟩ := key _ x0 a w m rfl (hf.sub hs) hw h0
  exact ⟨ex, a', w', hq, .of_steps (.one (fenced_calm hb hr rfl) stepR_loop) harr⟩
/-- The round's end. -/
theorem QN.round {X : Type} {E : X → Env} {I : X → World → Prop} {μ : X → Nat} {x : X} (x' : X) (hs : Sub (E x') e) (hI : I x' m) (hlt : μ x' < μ x) :
    QN (Exit.then (loopQ E I μ n D x) Q) .normal n e D m := fun _ _ hf hw => ⟨x', m, hf.sub hs, hw, hI, hlt⟩
/-- What follows in a sequence. -/
theorem QN.next {ds : List Deferred} {ro : Option Nat} (h : WP P y Q n e ⟨ds, ro⟩ m) : QN (Exit.then (fun a w => y.wpIn (fenceR ro) 0 P Q a w) Q) .normal n e ⟨ds, ro⟩ m := fun a w hf hw => h a w hf hw
theorem QN.then_ret {K : Act → World → Prop} (h : QN Q .ret n e D m) : QN (Exit.then K Q) .ret n e D m := h
theorem QN.then_exit {K : Act → World → Prop} {id : Nat} (h : QN Q (.exit id) n e D m) : QN (Exit.then K Q) (.exit id) n e D m := h
theorem QN.then_panic {K : Act → World → Prop} {ch : List PanicEntry} (h : QN Q (.panic ch) n e D m) : QN (Exit.then K Q) (.panic ch) n e D m := h
theorem QN.block_panic {id : Nat} {ch : List PanicEntry} (h : QN Q (.panic ch) n e D m) : QN (Exit.inBlock id Q) (.panic ch) n e D m := h
theorem QN.block_normal {id : Nat} (h : QN Q .normal n e D m) : QN (Exit.inBlock id Q) .normal n e D m := h
theorem QN.block_ret {id : Nat} (h : QN Q .ret n e D m) : QN (Exit.inBlock id Q) .ret n e D m := h
theorem QN.block_exit {id : Nat} (h : QN Q .normal n e D m) : QN (Exit.inBlock id Q) (.exit id) n e D m := fun a w hf hw => by
  simp only [Exit.inBlock, if_true]; exact h a w hf hw
theorem QN.block_far {id id' : Nat} (hne : Nat.beq id' id = false) (h : QN Q (.exit id') n e D m) : QN (Exit.inBlock id Q) (.exit id') n e D m := fun a w hf hw => by
  simp only [Exit.inBlock, if_neg (show ¬ id' = id from fun hh => by subst hh; simp at hne)]; exact h a w hf hw
/-- A cut: what comes behind is shown once, of all states that 'J' allows. -/
theorem WP.cut {X : Type} (E : X → Env) (I : X → World → Prop) (h1 : WP P x (Exit.then (fun a w => ∃ x' m', Fits n (E x') D a ∧ Sim m' w ∧ I x' m') Q) n e D m)
    (h2 : ∀ x' m', I x' m' → WP P y Q n (E x') D m') : WP P (.seq x y) Q n e D m := by
  intro a w hf hw
  refine wpIn_seq (wpIn_mono (h1 a w hf hw) fun ex a' w' hq => ?_)
  cases ex with
  | normal => obtain ⟨x', m', hfx, hsx, hI⟩ := hq; exact h2 x' m' hI a' w' hfx hsx
  | exit id => exact hq
  | goto l => exact hq
  | ret => exact hq
  | panic ch => exact hq
  | outgrown => exact hq
theorem QN.cutEnd {X : Type} {E : X → Env} {I : X → World → Prop} (x' : X) (hs : Sub (E x') e) (hI : I x' m) :
    QN (Exit.then (fun a w => ∃ x' m', Fits n (E x') D a ∧ Sim m' w ∧ I x' m') Q) .normal n e D m := fun _ _ hf hw => ⟨x', m, hf.sub hs, hw, hI⟩
end

theorem WP.wp {P : Program} {c : Code} {Q : Exit → Act → World → Prop} {n : Nat} {e : Env} {ds : List Deferred} {m : World} (h : WP P c Q n e ⟨ds, none⟩ m) (a : Act) (w : World) (hf : Fits n e ⟨ds, none⟩ a) (hs : Sim m w) : c.wp P Q a w :=
  wpIn_wide.1 (h a w hf hs)
theorem WP.of_wp {P : Program} {c : Code} {Q : Exit → Act → World → Prop} {n : Nat} {e : Env} {ds : List Deferred} {m : World} (h : ∀ a w, Fits n e ⟨ds, none⟩ a → Sim m w → c.wp P Q a w) : WP P c Q n e ⟨ds, none⟩ m :=
  fun a w hf hs => wpIn_wide.2 (h a w hf hs)
theorem Calls.fr {P : Program} {f : FuncId} {args : Array Value} {w : World} {R : Ending → World → Prop} (D : Fr) (n : Nat) (h : Calls P f args w R) : CallsIn (fenceR D.ro) n P f args w R :=
  (callsIn_wide (n := n)).2 h
theorem Calls.of_fr {P : Program} {f : FuncId} {args : Array Value} {w : World} {R : Ending → World → Prop} {D : Fr} {n : Nat} (h : CallsIn (fenceR D.ro) n P f args w R) : Calls P f args w R :=
  (callsIn_wide (n := n)).1 h

/-! ### Contracts -/
def Callable (P : Program) (f : FuncId) : Prop := ∃ fn, P.funcs[f]? = some fn ∧ (fn.name == "runtime.NumGoroutine") = false ∧ fn.body.isNone = false
/-- A call of function f: how it ends, and in which world. -/
def FnE (P : Program) (f : FuncId) (args : List Value) (m : World) (post : Ending → World → Prop) : Prop :=
  Callable P f ∧ ∀ w, Sim m w → Calls P f args.toArray w fun e w' => ∃ m', Sim m' w' ∧ post e m'
/-- It returns. -/
def FnR (P : Program) (f : FuncId) (args : List Value) (m : World) (post : Value → World → Prop) : Prop :=
  FnE P f args m fun e m' => ∃ v, e = .returned v ∧ post v m'
theorem FnE.mono {P : Program} {f : FuncId} {args : List Value} {m : World} {post post' : Ending → World → Prop} (h : FnE P f args m post) (hp : ∀ e m', post e m' → post' e m') : FnE P f args m post' :=
  ⟨h.1, fun w hs => (h.2 w hs).mono fun _ _ ⟨m', h1, h2⟩ => ⟨m', h1, hp _ _ h2⟩⟩
theorem FnR.mono {P : Program} {f : FuncId} {args : List Value} {m : World} {post post' : Value → World → Prop} (h : FnR P f args m post) (hp : ∀ v m', post v m' → post' v m') : FnR P f args m post' :=
  FnE.mono h fun _ _ ⟨v, h1, h2⟩ => ⟨v, h1, hp _ _ h2⟩
/-- Where a body's end leads. -/
def bodyQ (P : Program) (fn : Func) (post : Ending → World → Prop) : Exit → Act → World → Prop := bodyPost P fn fun e w' => ∃ m', Sim m' w' ∧ post e m'
def argsEnv : Nat → List Value → Env
  | _, [] => []
  | k, v :: r => (k, v) :: argsEnv (k + 1) r
theorem argsEnv_get : ∀ (l : List Value) (k t : Nat) (v : Value), (argsEnv k l).get t = some v → k ≤ t ∧ l[t - k]? = some v
  | [], _, _, _, h => by cases h
  | u :: r, k, t, v, h => by
    unfold argsEnv Env.get at h
    split at h
    · rename_i hb
      have hb : k = t := by simpa using hb
      injection h with h
      subst hb; subst h
      simp
    · rename_i hb
      have hb : k ≠ t := Nat.ne_of_beq_eq_false hb
      obtain ⟨h1, h2⟩ := argsEnv_get r (k + 1) t v h
      refine ⟨by omega, ?_⟩
      rw [show t - k = (t - (k + 1)) + 1 by omega]
      simpa using h2
theorem FnE.enter {P : Program} {f : FuncId} {fn : Func} {c : Code} {args : List Value} {m : World} {post : Ending → World → Prop} (hc : Callable P f)
    (hf : P.funcs[f]? = some fn) (hb : fn.body = some c) (hn : Nat.ble args.length fn.ntmps = true) (h : WP P c (bodyQ P fn post) fn.ntmps (argsEnv 0 args) ⟨[], none⟩ m) : FnE P f args m post :=
  ⟨hc, fun w hs => calls_of_wp hf hb (WP.wp h _ w ⟨by have := Nat.le_of_ble_eq_true hn; simp; omega, rfl, fun t v ht => by
    obtain ⟨_, h2⟩ := argsEnv_get args 0 t v ht
    simp only [Nat.sub_zero] at h2
    have hlt : t < args.length := (List.getElem?_eq_some_iff.1 h2).1
    rw [Array.getElem?_append_left (by simpa using hlt)]
    simpa using h2⟩ hs)⟩
theorem QN.ret0 {P : Program} {fn : Func} {post : Ending → World → Prop} {n : Nat} {e : Env} {m : World} (hr : fn.results = #[]) (h : post (.returned (.tuple #[])) m) : QN (bodyQ P fn post) .ret n e ⟨[], none⟩ m :=
  fun _ _ hf hs => ⟨hf.defers, .tuple #[], results_none hr _ _ _, m, hs, h⟩
theorem QN.end0 {P : Program} {fn : Func} {post : Ending → World → Prop} {n : Nat} {e : Env} {m : World} (hr : fn.results = #[]) (h : post (.returned (.tuple #[])) m) : QN (bodyQ P fn post) .normal n e ⟨[], none⟩ m :=
  fun _ _ hf hs => ⟨hf.defers, .tuple #[], results_none hr _ _ _, m, hs, h⟩
theorem QN.ret1 {P : Program} {fn : Func} {post : Ending → World → Prop} {n : Nat} {e : Env} {m : World} {t : Tmp} {v : Value} (hr : fn.results = #[.tmp t]) (ht : e.get t = some v) (h : post (.returned v) m) : QN (bodyQ P fn post) .ret n e ⟨[], none⟩ m :=
  fun _ _ hf hs => ⟨hf.defers, v, by rw [results_tmp hr, getD_of_some (hf.get t v ht)], m, hs, h⟩
theorem QN.ret2 {P : Program} {fn : Func} {post : Ending → World → Prop} {n : Nat} {e : Env} {m : World} {t u : Tmp} {v v' : Value} (hr : fn.results = #[.tmp t, .tmp u]) (ht : e.get t = some v) (hu : e.get u = some v') (h : post (.returned (.tuple #[v, v'])) m) : QN (bodyQ P fn post) .ret n e ⟨[], none⟩ m :=
  fun _ _ hf hs => ⟨hf.defers, _, by rw [results_tmp2 hr, getD_of_some (hf.get t v ht), getD_of_some (hf.get u v' hu)], m, hs, h⟩
theorem QN.panic {P : Program} {fn : Func} {post : Ending → World → Prop} {n : Nat} {e : Env} {m : World} {ch : List PanicEntry} (h : post (.panicked ch) m) : QN (bodyQ P fn post) (.panic ch) n e ⟨[], none⟩ m :=
  fun _ _ hf hs => ⟨hf.defers, m, hs, h⟩
end Go.Ev
