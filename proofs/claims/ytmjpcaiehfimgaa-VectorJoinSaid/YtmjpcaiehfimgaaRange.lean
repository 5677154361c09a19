/- A range over a function: one law for the statement, over the iterator's contract. No program, no conditions. -/
import Derived.Test.YtmjpcaiehfimgaaDefer
import Derived.RangeFuncRecord
import Derived.RangeFuncOwn
import Derived.Scope
namespace Go.Ev
open Go.RowKit

/-- Cells stay as they are, and all below B. -/
structure Kc (B : Nat) (m m' : World) : Prop where
  os : m'.os = m.os
  tape : m'.tape = m.tape
  output : m'.output = m.output
  drawn : m.drawn ≤ m'.drawn
  size : m.heap.size ≤ m'.heap.size
  low : ∀ k, k < m.heap.size → k < B → m'.heap[k]? = m.heap[k]?
  cells : ∀ (k : Nat) (c : Array Value) (t : TypeId) (z : Nat × Nat), m.heap[k]? = some (Obj.cells c t z) → m'.heap[k]? = some (Obj.cells c t z)
/-- What is no cells stays as it is, from B on ('fx': whatever it is). -/
def Kn (fx : Bool) (B : Nat) (m m' : World) : Prop := ∀ (k : Nat) (o : Obj), B ≤ k → m.heap[k]? = some o → (fx = true ∨ o.isCells = false) → m'.heap[k]? = some o
section
variable {m m' m'' : World} {B : Nat} {M : List Nat}
theorem Kc.refl (B : Nat) (m : World) : Kc B m m := ⟨rfl, rfl, rfl, Nat.le_refl _, Nat.le_refl _, fun _ _ _ => rfl, fun _ _ _ _ h => h⟩
theorem Kc.trans (h : Kc B m m') (h' : Kc B m' m'') : Kc B m m'' :=
  ⟨h'.os.trans h.os, h'.tape.trans h.tape, h'.output.trans h.output, Nat.le_trans h.drawn h'.drawn, Nat.le_trans h.size h'.size, fun k h1 h2 => (h'.low k (Nat.lt_of_lt_of_le h1 h.size) h2).trans (h.low k h1 h2), fun k c t z hk => h'.cells k c t z (h.cells k c t z hk)⟩
theorem Ext.kc (h : Ext m [] m') : Kc B m m' := ⟨h.os, h.tape, h.output, h.drawn, h.size, fun k h1 _ => h.far k h1 (by simp), fun k c t z hk => (h.far k (Array.getElem?_eq_some_iff.1 hk).1 (by simp)).trans hk⟩
theorem Blk.kc {b : Nat} {t : TypeId} {cs : List Value} (h : Blk m b t cs) (hK : Kc B m m') : Blk m' b t cs := hK.cells _ _ _ _ h
theorem Kc.cell (hK : Kc B m m') {a : Addr} {v : Value} (h : m.cell? a = some v) : m'.cell? a = some v := by
  unfold World.cell? at h ⊢
  split at h
  · rename_i c t z hc
    rw [hK.cells _ _ _ _ hc]; exact h
  · cases h
theorem Sl.kc {sz : Nat} {v : Value} {xs : List Value} (h : Sl m M sz v xs) (hK : Kc B m m') : Sl m' M sz v xs := by
  obtain ⟨A, n, c, hv, hnc, hc, hl, hA, hr⟩ := h
  refine ⟨A, n, c, hv, hnc, hc, hl, hA, fun hn => ?_⟩
  obtain ⟨ad, had, hb, hcell⟩ := hr hn
  exact ⟨ad, had, hb, fun j u hu => hK.cell (hcell j u hu)⟩
theorem Own.kc {S : List Nat} {t : TypeId} {sz : Nat} {v : Value} {n : Nat} {xs : List Value} (h : Own m S t sz v n xs) (hK : Kc B m m') : Own m' S t sz v n xs := by
  refine ⟨h.1, ?_⟩
  rcases h.2 with h1 | ⟨g, cap, cur, hv, hB, h1, h2, h3, h4, rfl⟩
  · exact .inl h1
  · exact .inr ⟨g, cap, cur, hv, hB.kc hK, h1, h2, h3, h4, rfl⟩
theorem Ext.of_kc {m0 : World} (h : Ext m0 M m) (hK : Kc B m m') (hB : m0.heap.size ≤ B) : Ext m0 M m' :=
  ⟨hK.os.trans h.os, hK.tape.trans h.tape, hK.output.trans h.output, Nat.le_trans h.size hK.size, fun k hk hn => (hK.low k (Nat.lt_of_lt_of_le hk h.size) (Nat.lt_of_lt_of_le hk hB)).trans (h.far k hk hn), Nat.le_trans h.drawn hK.drawn⟩
theorem Kn.refl (fx : Bool) (B : Nat) (m : World) : Kn fx B m m := fun _ _ _ h _ => h
theorem Kn.trans {fx : Bool} (h : Kn fx B m m') (h' : Kn fx B m' m'') : Kn fx B m m'' := fun k o hB hk ho => h' k o hB (h k o hB hk ho) ho
/-- Where all that turned was cells. -/
theorem Ext.kn (h : Ext m M m') (hM : ∀ k ∈ M, B ≤ k → k < m.heap.size → ∃ (c : Array Value) (t : TypeId) (z : Nat × Nat), m.heap[k]? = some (Obj.cells c t z)) : Kn false B m m' := fun k o hB hk ho => by
  have hlt := (Array.getElem?_eq_some_iff.1 hk).1
  refine (h.far k hlt (fun hm => ?_)).trans hk
  obtain ⟨c, t, z, hc⟩ := hM k hm hB hlt
  rw [hk] at hc
  cases hc
  rcases ho with ho | ho <;> cases ho
/-- Where all that turned stands below B. -/
theorem Ext.knLow {fx : Bool} (h : Ext m M m') (hM : ∀ k ∈ M, B ≤ k → m.heap.size ≤ k) : Kn fx B m m' := fun k o hB hk _ => by
  have hlt := (Array.getElem?_eq_some_iff.1 hk).1
  refine (h.far k hlt (fun hm => ?_)).trans hk
  have := hM k hm hB
  omega
theorem Ext.kn0 {fx : Bool} (h : Ext m [] m') : Kn fx B m m' := h.knLow (by simp)
theorem Own.cells {S : List Nat} {t : TypeId} {sz : Nat} {v : Value} {n : Nat} {xs : List Value} (h : Own m S t sz v n xs) : ∀ k ∈ S, ∃ (c : Array Value) (t : TypeId) (z : Nat × Nat), m.heap[k]? = some (Obj.cells c t z) := by
  rcases h.2 with ⟨_, _, _, rfl⟩ | ⟨g, _, cur, _, hB, _, _, _, _, rfl⟩
  · simp
  · intro k hk
    have : k = g := by simpa using hk
    subst this
    exact ⟨_, _, _, hB⟩
/-- A loop's record, or the like, at a new block. -/
theorem putObj_kc {l : Nat} {o o' : Obj} (hl : m.heap[l]? = some o) (ho : o.isCells = false) (hB : B ≤ l) : Kc B m (m.putObj l o') := by
  refine ⟨rfl, rfl, rfl, Nat.le_refl _, by simp, fun k _ hk => World.putObj_heap_other (by omega), fun k c t z hk => ?_⟩
  rw [World.putObj_heap_other]
  · exact hk
  · intro h; subst h; rw [hl] at hk; cases hk; cases ho
theorem Sim.putObj {w : World} (h : Sim m w) (l : Nat) (o : Obj) : Sim (m.putObj l o) (w.putObj l o) := ⟨by simp [World.putObj, h.heap], h.os, h.output, h.tape, h.drawn⟩
end

/-- One round of loop l, asked for with the values vs. -/
def RdE (P : Program) (l : Nat) (vs : List Value) (m : World) (post : Ending → World → Prop) : Prop :=
  ∀ w, Sim m w → ∃ f tmps assign body, (Instr.yield l vs.toArray).run P w = .ok (.round l f tmps assign body) w ∧ RoundIn Fence.wide 0 P l f tmps assign body w fun e w' => ∃ m', Sim m' w' ∧ post e m'
section
variable {P : Program} {ops : Array Oper} {Q : Exit → Act → World → Prop} {rest : List Oper} {n : Nat} {e e' : Env} {D : Fr} {m : World}
  {d : Option Tmp} {t ty : TypeId} {pos : String} {aft : Array Edge} {g : Option (Nat × Bool)} {v : Value}
/-- yield(..) -/
theorem RL.yield {l : Nat} {fo : Operand} {xs : Array Operand} {ts : Array TypeId} {vs : List Value} {post : Ending → World → Prop}
    (hg : gd ops e ⟨d, .call ⟨.value fo, xs, ts⟩, ty, pos, aft, g⟩ = some true) (hfo : e.ev fo = some (.func (.yield l) #[] #[])) (hxs : e.evs xs.toList = some vs) (hc : RdE P l vs m post)
    (h : ∀ v m', post (.returned v) m' → ∃ e', putE n d v e = some e' ∧ RL P ops Q rest n e' D m') (hpan : ∀ ch m', ¬ post (.panicked ch) m') (hout : ∀ m', ¬ post .outgrown m') :
    RL P ops Q (⟨d, .call ⟨.value fo, xs, ts⟩, ty, pos, aft, g⟩ :: rest) n e D m := by
  refine RL.run hg (fun _ hh => by cases hh) fun a w hf hs => ?_
  obtain ⟨f, tmps, assign, body, hy, hr⟩ := hc w hs
  have h1 : xs.map a.eval = vs.toArray := Array.ext' (by rw [Array.toList_map]; exact hf.evs hxs)
  have hrun : (execOp a.eval (⟨d, .call ⟨.value fo, xs, ts⟩, ty, pos, aft, g⟩ : Oper)).run P w = .ok (.round l f tmps assign body) w := by
    simp [execOp, resolve, hf.ev hfo, Deferred.ofValue, invoke, h1, hy]
  rw [hrun]
  refine ⟨(fun hh => by cases hh), RoundIn.mono hr fun ed w' ⟨m', hs', hp⟩ => ?_⟩
  cases ed with
  | returned v =>
    obtain ⟨e', hp', hk⟩ := h v m' hp
    exact hk _ w' (hf.put hp') hs'
  | panicked ch => exact absurd hp (hpan ch m')
  | outgrown => exact absurd hp (hout m')
end

/-- An iterator: all that it tells is 'S', a part that was stopped 'Sp'; K: what it asks of memory between two rounds. -/
def SeqE {α : Type} (P : Program) (gf : FuncId) (lb : List Value) (encs : α → List Value) (fx : Bool) (K : World → Prop) (V : List α → α → Prop) (S Sp : List α → Prop) (m : World) : Prop :=
  ∀ (l : Nat) (J Jx : List α → World → Prop) (m1 : World), Ext m [] m1 → (∀ pre a b, J pre a → Ext a [] b → J pre b) → (∀ pre a b, Jx pre a → Ext a [] b → Jx pre b) → (∀ pre a, J pre a → K a) →
    (∀ pre x a, J pre a → V pre x → RdE P l (encs x) a fun ed b => (ed = .returned (.bool true) ∧ J (pre ++ [x]) b ∧ Kn fx m1.heap.size a b) ∨ (ed = .returned (.bool false) ∧ Jx (pre ++ [x]) b)) → J [] m1 →
    FnR P gf (.func (.yield l) #[] #[] :: lb) m1 fun _ m2 => (∃ xs, S xs ∧ J xs m2) ∨ ∃ pre, Sp pre ∧ Jx pre m2
/-- The parameters' slots at a round's beginning. -/
def putPs (n : Nat) : List Tmp → List Value → Env → Option Env
  | [], [], e => some e
  | p :: ps, v :: vs, e => match Nat.blt p n with
    | true => putPs n ps vs ((p, v) :: e)
    | false => none
  | _, _, _ => none
theorem fits_ps {n : Nat} {ro : Option Nat} : ∀ (ps : List Tmp) (vs : List Value) (e e' : Env) (tmps : Array Value), Fits n e ⟨[], ro⟩ { tmps, defers := [] } → putPs n ps vs e = some e' →
    Fits n e' ⟨[], ro⟩ { tmps := (ps.zip vs).foldl (fun t (x : Tmp × Value) => t.setIfInBounds x.1 x.2) tmps, defers := [] }
  | [], [], e, e', tmps, hf, h => by simp only [putPs, Option.some.injEq] at h; subst h; exact hf
  | p :: ps, v :: vs, e, e', tmps, hf, h => by
    unfold putPs at h
    split at h
    · rename_i hp
      have h1 := hf.put (dst := some p) (v := v) (e' := (p, v) :: e) (by simp [putE, hp])
      exact fits_ps ps vs _ e' _ h1 h
    · cases h
  | [], _ :: _, _, _, _, _, h => by simp [putPs] at h
  | _ :: _, [], _, _, _, _, h => by simp [putPs] at h
/-- Where a round's body leads. -/
def rdPost {α : Type} (fx : Bool) (B : Nat) (I : List α → World → Prop) (Ix : Code → List α → World → Prop) (pre : List α) (m2 : World) : Exit → Act → World → Prop
  | .normal, _, w => ∃ m', Sim m' w ∧ Kn fx B m2 m' ∧ I pre m'
  | .ret, _, w => ∃ m', Sim m' w ∧ Kn fx B m2 m' ∧ Ix .ret pre m'
  | .exit id, _, w => ∃ m', Sim m' w ∧ Kn fx B m2 m' ∧ Ix (.exit id) pre m'
  | _, _, _ => False
section
variable {α : Type} {fx : Bool} {B : Nat} {I : List α → World → Prop} {Ix : Code → List α → World → Prop} {pre : List α} {m2 m' : World} {n : Nat} {e : Env} {D : Fr}
theorem QN.rdNormal (hk : Kn fx B m2 m') (hi : I pre m') : QN (rdPost fx B I Ix pre m2) .normal n e D m' := fun _ _ _ hs => ⟨m', hs, hk, hi⟩
theorem QN.rdRet (hk : Kn fx B m2 m') (hi : Ix .ret pre m') : QN (rdPost fx B I Ix pre m2) .ret n e D m' := fun _ _ _ hs => ⟨m', hs, hk, hi⟩
theorem QN.rdExit {id : Nat} (hk : Kn fx B m2 m') (hi : Ix (.exit id) pre m') : QN (rdPost fx B I Ix pre m2) (.exit id) n e D m' := fun _ _ _ hs => ⟨m', hs, hk, hi⟩
theorem PanicOk.rd : PanicOk (rdPost fx B I Ix pre m2) := fun _ _ _ _ _ h => h
/-- Behind the assignment to the loop's left side. -/
theorem QN.asgEnd {β : Type} {EA : β → Env} {IA : β → World → Prop} (y : β) (hs : Sub (EA y) e) (hk : Kn fx B m2 m') (hi : IA y m') :
    QN (Exit.then (fun a w => ∃ y m', Fits n (EA y) D a ∧ Sim m' w ∧ Kn fx B m2 m' ∧ IA y m') (fun _ _ _ => False)) .normal n e D m' := fun _ _ hf hw => ⟨y, m', hf.sub hs, hw, hk, hi⟩
end
theorem callsIn_toWide {F : Fence} {n : Nat} {P : Program} {f : FuncId} {args : Array Value} {w : World} {R : Ending → World → Prop} (h : CallsIn Fence.wide n P f args w R) (hF : F = Fence.wide) : CallsIn F n P f args w R := hF ▸ h
/-- 'for x := range g { .. }' -/
theorem WP.rangeFunc {α β : Type} {P : Program} {Q : Exit → Act → World → Prop} {n : Nat} {e : Env} {ds : List Deferred} {m : World} {g : Operand} {ps : List Tmp} {assign body : Code} {gf : FuncId} {lb : List Value} {fx : Bool} {K : World → Prop} {V : List α → α → Prop} {S Sp : List α → Prop}
    (encs : α → List Value) (hg : e.ev g = some (.func (.func gf) #[] lb.toArray)) (hseq : SeqE P gf lb encs fx K V S Sp m) (hgf : Callable P gf)
    (I : List α → World → Prop) (Ix : Code → List α → World → Prop) (hI : ∀ pre a b, I pre a → Kc m.heap.size a b → I pre b) (hIx : ∀ c pre a b, Ix c pre a → Kc m.heap.size a b → Ix c pre b) (hIK : ∀ pre a, I pre a → K a) (h0 : I [] m)
    (E : α → Env) (hE : ∀ x, putPs n ps (encs x) e = some (E x)) (hps : ∀ x, (encs x).length = ps.length)
    (EA : α → β → Env) (IA : List α → α → β → World → Prop) (hIA : ∀ pre x y a b, IA pre x y a → Kc m.heap.size a b → IA pre x y b)
    (hassign : ∀ l pre x m1, I pre m1 → V pre x → m.heap.size ≤ m1.heap.size → WP P assign (Exit.then (fun a w => ∃ y m2, Fits n (EA x y) ⟨[], some l⟩ a ∧ Sim m2 w ∧ Kn fx m.heap.size m1 m2 ∧ IA pre x y m2) (fun _ _ _ => False)) n (E x) ⟨[], some l⟩ m1)
    (hbody : ∀ l pre x y m2, IA pre x y m2 → V pre x → m.heap.size ≤ m2.heap.size → WP P body (rdPost fx m.heap.size I Ix (pre ++ [x]) m2) n (EA x y) ⟨[], some l⟩ m2)
    (hdone : ∀ D xs m', m.heap.size ≤ D → S xs → I xs m' → m'.heap[D]? = some (.deferred (some [])) → QN Q .normal n e ⟨{ target := .collected D, args := #[] } :: ds, none⟩ m')
    (hstop : ∀ D c pre m', m.heap.size ≤ D → Sp pre → Ix c pre m' → m'.heap[D]? = some (.deferred (some [])) → WP P c Q n e ⟨{ target := .collected D, args := #[] } :: ds, none⟩ m') :
    WP P (.rangeFunc g ps.toArray assign body) Q n e ⟨ds, none⟩ m := by
  intro a w hf hw
  refine wpIn_rangeFunc (F := fenceR none) ?_
  intro fn _
  obtain ⟨B, hB⟩ : ∃ B, m.heap.size = B := ⟨_, rfl⟩
  rw [hB] at hI hIx hIA hassign hbody hdone hstop
  have hsz : w.heap.size = B := by rw [hw.heap, hB]
  obtain ⟨rec, hrec⟩ : ∃ rec : LoopState → Option Code → Loop, rec = fun st pe => { state := st, pending := pe, fn, tmps := a.tmps, params := ps.toArray, assign, body, defers := B } := ⟨_, rfl⟩
  obtain ⟨mW, hmW⟩ : ∃ mW, mW = (m.alloc (.deferred (some []))).alloc (.loop (rec .ready none)) := ⟨_, rfl⟩
  have hsW : Sim mW ((w.alloc (.deferred (some []))).alloc (.loop (rec .ready none))) := by rw [hmW]; exact (hw.alloc _).alloc _
  have hE1 : Ext m [] mW := by
    rw [hmW]
    exact ((Chg.alloc m _).new (Nat.le_refl _)).trans ((Chg.alloc _ _).new (Nat.le_refl _)) (by simp)
  have hLW : mW.heap[B + 1]? = some (.loop (rec .ready none)) := by
    rw [hmW]; have := World.alloc_heap_new (m.alloc (.deferred (some []))) (.loop (rec .ready none)); rwa [World.size_alloc, hB] at this
  have hDW : mW.heap[B]? = some (.deferred (some [])) := by
    rw [hmW, ← hB]; exact (Below.heap_alloc _ _ _ (by simp)).trans (World.alloc_heap_new m _)
  have hev : a.eval g = .func (.func gf) #[] lb.toArray := hf.ev hg
  refine ⟨B + 1, [{ target := .collected B, args := #[] }], (w.alloc (.deferred (some []))).alloc (.loop (rec .ready none)), { target := .fn (.func gf) lb.toArray, args := #[.func (.yield (B + 1)) #[] #[]] }, (w.alloc (.deferred (some []))).alloc (.loop (rec .ready none)), gf,
    #[.func (.yield (B + 1)) #[] #[]] ++ lb.toArray, (w.alloc (.deferred (some []))).alloc (.loop (rec .ready none)), ?_, ?_, fun _ _ => trivial, ?_, fun hh => (by cases hh), ?_⟩
  · have := run_enterLoop_outer (P := P) (w := w) fn a.tmps ps.toArray assign body
    rw [hsz] at this
    rw [hrec]
    exact this
  · simp only [resolve, hev]
    simp [go_sem]
  · exact invoke_fn hgf _ _ _
  · -- the iterator
    have hcall := hseq (B + 1)
      (fun pre c => I pre c ∧ c.heap[B + 1]? = some (.loop (rec .ready none)) ∧ c.heap[B]? = some (.deferred (some [])))
      (fun pre c => ∃ j, Ix j pre c ∧ c.heap[B + 1]? = some (.loop (rec .done (some j))) ∧ c.heap[B]? = some (.deferred (some [])))
      mW hE1
      (fun pre c c' ⟨h1, h2, h3⟩ hE => ⟨hI pre c c' h1 hE.kc, (hE.far _ (Array.getElem?_eq_some_iff.1 h2).1 (by simp)).trans h2, (hE.far _ (Array.getElem?_eq_some_iff.1 h3).1 (by simp)).trans h3⟩)
      (fun pre c c' ⟨j, h1, h2, h3⟩ hE => ⟨j, hIx j pre c c' h1 hE.kc, (hE.far _ (Array.getElem?_eq_some_iff.1 h2).1 (by simp)).trans h2, (hE.far _ (Array.getElem?_eq_some_iff.1 h3).1 (by simp)).trans h3⟩)
      (fun pre c ⟨h1, _⟩ => hIK pre c h1)
      ?_ ⟨hI [] m mW h0 hE1.kc, hLW, hDW⟩
    · have hc := Calls.fr ⟨[], none⟩ (0 - 1) (hcall.2 _ hsW)
      have harr : (Value.func (Fn.yield (B + 1)) #[] #[] :: lb).toArray = #[.func (.yield (B + 1)) #[] #[]] ++ lb.toArray := by simp
      rw [harr] at hc
      refine CallsIn.mono hc ?_
      rintro ed w2 ⟨m2, hs2, v, rfl, ⟨xs, hS, hi, hl, hk⟩ | ⟨pre, hSp, j, hi, hl, hk⟩⟩
      · have hl' : w2.heap[B + 1]? = some (.loop (rec .ready none)) := by rw [hs2.heap]; exact hl
        have hend := run_endLoop (P := P) hl' (by rw [hrec]; simp)
        refine ⟨none, w2.putObj (B + 1) (.loop { rec .ready none with state := .exhausted }), by rw [hend, hrec], ?_⟩
        have hq := hdone B xs (m2.putObj (B + 1) (.loop { rec .ready none with state := .exhausted })) (Nat.le_refl _) hS (hI xs m2 _ hi (putObj_kc hl rfl (by omega))) ((World.putObj_heap_other (by omega)).trans hk)
        exact hq _ _ ⟨hf.size, by show _ ++ _ = _ :: ds; rw [hf.defers]; rfl, hf.get⟩ (hs2.putObj _ _)
      · have hl' : w2.heap[B + 1]? = some (.loop (rec .done (some j))) := by rw [hs2.heap]; exact hl
        have hend := run_endLoop (P := P) hl' (by rw [hrec]; simp)
        refine ⟨some j, w2.putObj (B + 1) (.loop { rec .done (some j) with state := .exhausted }), by rw [hend, hrec], ?_⟩
        have hq := hstop B j pre (m2.putObj (B + 1) (.loop { rec .done (some j) with state := .exhausted })) (Nat.le_refl _) hSp (hIx j pre m2 _ hi (putObj_kc hl rfl (by omega))) ((World.putObj_heap_other (by omega)).trans hk)
        exact hq _ _ ⟨hf.size, by show _ ++ _ = _ :: ds; rw [hf.defers]; rfl, hf.get⟩ (hs2.putObj _ _)
    · -- one round
      rintro pre x c ⟨hi, hl, hk⟩ hlen wc hsc
      have hlw : wc.heap[B + 1]? = some (.loop (rec .ready none)) := by rw [hsc.heap]; exact hl
      have hy := run_yield (P := P) (args := (encs x).toArray) hlw (by rw [hrec]; simpa using hps x)
      rw [hrec] at hy
      refine ⟨fn, _, assign, body, hy, roundIn_of_wpIn (n := 0) trivial ?_⟩
      clear hy
      have hft : Fits n (E x) ⟨[], some (B + 1)⟩ { tmps := (ps.zip (encs x)).foldl (fun t (x : Tmp × Value) => t.setIfInBounds x.1 x.2) a.tmps, defers := [] } :=
        fits_ps ps (encs x) e (E x) a.tmps ⟨hf.size, rfl, hf.get⟩ (hE x)
      have hsizec : B ≤ c.heap.size := by have := (Array.getElem?_eq_some_iff.1 hl).1; omega
      have has := hassign (B + 1) pre x c hi hlen hsizec _ wc hft hsc
      have hzip : (ps.toArray.zip (encs x).toArray).foldl (fun tmps (t, a) => tmps.setIfInBounds t a) a.tmps = (ps.zip (encs x)).foldl (fun t (x : Tmp × Value) => t.setIfInBounds x.1 x.2) a.tmps := by
        simp [List.zip_toArray]
      rw [hzip]
      refine wpIn_mono has ?_
      intro ex a1 w1 hq
      cases ex with
      | normal =>
        obtain ⟨y, c1, hf1, hs1, hkn1, hia1⟩ := hq
        have hl1 := hkn1 _ _ (by omega) hl (.inr rfl)
        have hk1 := hkn1 _ _ (Nat.le_refl _) hk (.inr rfl)
        have hl1w : w1.heap[B + 1]? = some (.loop (rec .ready none)) := by rw [hs1.heap]; exact hl1
        refine ⟨_, run_beginRound hl1w (by rw [hrec]), ?_⟩
        have hlt1 := (Array.getElem?_eq_some_iff.1 hl1).1
        obtain ⟨c2, hc2⟩ : ∃ c2, c2 = c1.putObj (B + 1) (.loop { rec .ready none with state := .busy }) := ⟨_, rfl⟩
        have hl2 : c2.heap[B + 1]? = some (.loop { rec .ready none with state := .busy }) := by rw [hc2]; exact World.putObj_heap_same hlt1
        have hk2 : c2.heap[B]? = some (.deferred (some [])) := by rw [hc2]; exact (World.putObj_heap_other (by omega)).trans hk1
        have hs2 : Sim c2 (w1.putObj (B + 1) (.loop { rec .ready none with state := .busy })) := by rw [hc2]; exact hs1.putObj _ _
        have hia2 : IA pre x y c2 := by rw [hc2]; exact hIA pre x y c1 _ hia1 (putObj_kc hl1 rfl (by omega))
        have hsz2 : B ≤ c2.heap.size := by have := (Array.getElem?_eq_some_iff.1 hl2).1; omega
        have hb := hbody (B + 1) pre x y c2 hia2 hlen hsz2 _ _ hf1 hs2
        refine wpIn_mono hb ?_
        have fin : ∀ (jump : Option Code) (c3 w3 : World), Sim c3 w3 → Kn fx B c2 c3 →
            (Instr.endRound (B + 1) jump).run P w3 = .ok (.bool jump.isNone) (w3.putObj (B + 1) (.loop (rec (if jump.isNone then .ready else .done) jump))) ∧
            Kc B c3 (c3.putObj (B + 1) (.loop (rec (if jump.isNone then .ready else .done) jump))) ∧
            (c3.putObj (B + 1) (.loop (rec (if jump.isNone then .ready else .done) jump))).heap[B + 1]? = some (.loop (rec (if jump.isNone then .ready else .done) jump)) ∧
            (c3.putObj (B + 1) (.loop (rec (if jump.isNone then .ready else .done) jump))).heap[B]? = some (.deferred (some [])) := fun jump c3 w3 hs3 hk3 => by
          have hl3 := hk3 _ _ (by omega) hl2 (.inr rfl)
          have hd3 := hk3 _ _ (Nat.le_refl _) hk2 (.inr rfl)
          have hl3w : w3.heap[B + 1]? = some (.loop { rec .ready none with state := .busy }) := by rw [hs3.heap]; exact hl3
          have hend := run_endRound (P := P) jump hl3w
          rw [hrec] at hend ⊢
          exact ⟨hend, putObj_kc hl3 rfl (by omega), World.putObj_heap_same (Array.getElem?_eq_some_iff.1 hl3).1, (World.putObj_heap_other (by omega)).trans hd3⟩
        intro ex3 a3 w3 hq3
        cases ex3 with
        | normal =>
          obtain ⟨c3, hs3, hkn3, hi3⟩ := hq3
          obtain ⟨h1, h2, h3, h4⟩ := fin none c3 w3 hs3 hkn3
          exact ⟨_, _, h1, _, hs3.putObj _ _, .inl ⟨rfl, ⟨hI _ c3 _ hi3 h2, h3, h4⟩, fun k o hk1 hk2 hk3 => by
            have hWs : mW.heap.size = B + 2 := by rw [hmW, World.size_alloc, World.size_alloc, hB]
            exact (World.putObj_heap_other (by omega)).trans (hkn3 k o (by omega) (by rw [hc2]; exact (World.putObj_heap_other (by omega)).trans (hkn1 k o (by omega) hk2 hk3)) hk3)⟩⟩
        | ret =>
          obtain ⟨c3, hs3, hkn3, hi3⟩ := hq3
          obtain ⟨h1, h2, h3, h4⟩ := fin (some .ret) c3 w3 hs3 hkn3
          exact ⟨_, _, h1, _, hs3.putObj _ _, .inr ⟨rfl, _, hIx _ _ c3 _ hi3 h2, h3, h4⟩⟩
        | exit id =>
          obtain ⟨c3, hs3, hkn3, hi3⟩ := hq3
          obtain ⟨h1, h2, h3, h4⟩ := fin (some (.exit id)) c3 w3 hs3 hkn3
          exact ⟨_, _, h1, _, hs3.putObj _ _, .inr ⟨rfl, _, hIx _ _ c3 _ hi3 h2, h3, h4⟩⟩
        | goto t => exact hq3.elim
        | panic ch => exact hq3.elim
        | outgrown => exact hq3.elim
      | exit id => exact hq.elim
      | goto t => exact hq.elim
      | ret => exact hq.elim
      | panic ch => exact hq.elim
      | outgrown => exact hq.elim

/-! ### Scopes and labels that nothing jumps to -/
theorem WP.scope {P : Program} {c : Code} {Q : Exit → Act → World → Prop} {n : Nat} {e : Env} {ds : List Deferred} {m : World} (h : WP P c (Exit.noGoto Q) n e ⟨ds, none⟩ m) : WP P (.scope c) Q n e ⟨ds, none⟩ m :=
  WP.of_wp fun a w hf hs => wp_scope_straight (WP.wp h a w hf hs)
theorem WP.label {P : Program} {l : Nat} {Q : Exit → Act → World → Prop} {n : Nat} {e : Env} {D : Fr} {m : World} (h : QN Q .normal n e D m) : WP P (.label l) Q n e D m := fun a w hf hs => wpIn_label (h a w hf hs)
theorem QN.noGotoRet {Q : Exit → Act → World → Prop} {n : Nat} {e : Env} {D : Fr} {m : World} (h : QN Q .ret n e D m) : QN (Exit.noGoto Q) .ret n e D m := h
theorem QN.noGotoNormal {Q : Exit → Act → World → Prop} {n : Nat} {e : Env} {D : Fr} {m : World} (h : QN Q .normal n e D m) : QN (Exit.noGoto Q) .normal n e D m := h
theorem PanicOk.noGoto {Q : Exit → Act → World → Prop} (h : PanicOk Q) : PanicOk (Exit.noGoto Q) := h
/-! ### Functions that hold such a statement -/
def bodyQM (P : Program) (fn : Func) (post : Ending → World → Prop) : Exit → Act → World → Prop := bodyPostM Fence.wide 0 P fn fun e w' => ∃ m', Sim m' w' ∧ post e m'
theorem FnE.enterM {P : Program} {f : FuncId} {fn : Func} {c : Code} {args : List Value} {m : World} {post : Ending → World → Prop} (hc : Callable P f)
    (hf : P.funcs[f]? = some fn) (hb : fn.body = some c) (hn : Nat.ble args.length fn.ntmps = true) (h : WP P c (bodyQM P fn post) fn.ntmps (argsEnv 0 args) ⟨[], none⟩ m) : FnE P f args m post :=
  ⟨hc, fun w hs => (callsIn_wide (n := 0)).1 (callsIn_of_wp_marks hf hb trivial (h _ w (args_fits hn) hs))⟩
/-- The end of such a function: its mark is taken. -/
theorem QN.leaveM {P : Program} {fn : Func} {post : Ending → World → Prop} {n : Nat} {e : Env} {m : World} {Dk : Nat} {r : Value} {x : Exit} (hx : x = .ret ∨ x = .normal) (hk : m.heap[Dk]? = some (.deferred (some [])))
    (h : ∀ m', Kc Dk m m' → (∀ k, k ≠ Dk → m'.heap[k]? = m.heap[k]?) → Res P fn n e ⟨[{ target := .collected Dk, args := #[] }], none⟩ m' r ∧ post (.returned r) m') :
    QN (bodyQM P fn post) x n e ⟨[{ target := .collected Dk, args := #[] }], none⟩ m := by
  intro a w hf hs
  have hkw : w.heap[Dk]? = some (.deferred (some [])) := by rw [hs.heap]; exact hk
  have key : LeavesInM Fence.wide 0 P fn a.tmps (fun e w' => ∃ m', Sim m' w' ∧ post e m') a.defers .returning w := by
    rw [hf.defers]
    refine ⟨by simp, .inl ⟨Dk, _, rfl, run_takeDeferred hkw, ?_⟩⟩
    obtain ⟨h1, h2⟩ := h (m.putObj Dk (.deferred none)) (putObj_kc hk rfl (Nat.le_refl _)) (fun k hk => World.putObj_heap_other hk)
    exact ⟨r, h1 a _ hf (hs.putObj _ _), _, hs.putObj _ _, h2⟩
  rcases hx with rfl | rfl
  · exact key
  · exact key
/-- Such a function where no such statement was come to. -/
theorem QN.leaveM0 {P : Program} {fn : Func} {post : Ending → World → Prop} {n : Nat} {e : Env} {m : World} {r : Value} {x : Exit} (hx : x = .ret ∨ x = .normal)
    (h1 : Res P fn n e ⟨[], none⟩ m r) (h2 : post (.returned r) m) : QN (bodyQM P fn post) x n e ⟨[], none⟩ m := by
  intro a w hf hs
  have key : LeavesInM Fence.wide 0 P fn a.tmps (fun e w' => ∃ m', Sim m' w' ∧ post e m') a.defers .returning w := by
    rw [hf.defers]
    exact ⟨r, h1 a w hf hs, m, hs, h2⟩
  rcases hx with rfl | rfl
  · exact key
  · exact key
end Go.Ev
