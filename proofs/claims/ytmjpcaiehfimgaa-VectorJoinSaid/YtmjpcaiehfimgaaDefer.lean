/- Deferred calls and recover. No conditions. -/
import Derived.Test.YtmjpcaiehfimgaaDraw
namespace Go.Ev
open Go.RowKit

/-- A deferred call: in which mode (returning, panicking) it leaves its caller. -/
def DfE (P : Program) (f : FuncId) (args : List Value) (u : FrameMode) (m : World) (post : Ending → FrameMode → World → Prop) : Prop :=
  Callable P f ∧ ∀ w, Sim m w → CallsD P f args.toArray u w fun e u' w' => ∃ m', Sim m' w' ∧ post e u' m'
/-- What recover hands back, and the mode behind it. -/
def recV : FrameMode → Value
  | .panicking ({ v, recovered := false, goexit := false } :: _) => v
  | _ => .nilIface
def recU : FrameMode → FrameMode
  | .panicking ({ v, recovered := false, goexit := false } :: older) => .panicking ({ v, recovered := true } :: older)
  | u => u
theorem recoverD_eq (c : Frame) (cs : List Frame) : (recoverD (c :: cs) = some (recV c.mode, { c with mode := recU c.mode } :: cs)) ∨ (recoverD (c :: cs) = none ∧ recV c.mode = .nilIface ∧ recU c.mode = c.mode) := by
  obtain ⟨fn, tmps, todo, defers, mode, kind, ro⟩ := c
  cases mode with
  | panicking ch =>
    cases ch with
    | nil => exact .inr ⟨rfl, rfl, rfl⟩
    | cons p older =>
      obtain ⟨v, r, g⟩ := p
      cases r <;> cases g
      · exact .inl rfl
      · exact .inr ⟨rfl, rfl, rfl⟩
      · exact .inr ⟨rfl, rfl, rfl⟩
      · exact .inr ⟨rfl, rfl, rfl⟩
  | run => exact .inr ⟨rfl, rfl, rfl⟩
  | returning => exact .inr ⟨rfl, rfl, rfl⟩

section
variable {P : Program} {f : FuncId} {fn : Func} {args : List Value} {m : World} {u : FrameMode}
theorem args_fits (h : Nat.ble args.length fn.ntmps = true) : Fits fn.ntmps (argsEnv 0 args) ⟨[], none⟩ { tmps := args.toArray ++ Array.replicate (fn.ntmps - args.toArray.size) undef, defers := [] } :=
  ⟨by have := Nat.le_of_ble_eq_true h; simp; omega, rfl, fun t v ht => by
    obtain ⟨_, h2⟩ := argsEnv_get args 0 t v ht
    simp only [Nat.sub_zero] at h2
    have hlt : t < args.length := (List.getElem?_eq_some_iff.1 h2).1
    rw [Array.getElem?_append_left (by simpa using hlt)]
    simpa using h2⟩
/-- A deferred function that first asks recover. -/
theorem DfE.enter {c : Code} {id : Nat} {d : Tmp} {ts : Array TypeId} {ty : TypeId} {pos : String} {aft : Array Edge} {post : Ending → FrameMode → World → Prop} (hc : Callable P f)
    (hf : P.funcs[f]? = some fn) (hb : fn.body = some (.seq (.region id #[⟨some d, .call ⟨.builtin .recover, #[], ts⟩, ty, pos, aft, none⟩] false) c)) (hn : Nat.ble args.length fn.ntmps = true) (hd : Nat.blt d fn.ntmps = true)
    (h : WP P c (bodyQ P fn fun e m' => post e (recU u) m') fn.ntmps ((d, recV u) :: argsEnv 0 args) ⟨[], none⟩ m) : DfE P f args u m post := by
  refine ⟨hc, fun w hs => callsD_of_wpS hf hb fun c₀ cs hu => ?_⟩
  subst hu
  refine wpS_seq (wpS_region ?_)
  have hrun : ∀ (a : Act) (w : World), (execOp a.eval (⟨some d, .call ⟨.builtin .recover, #[], ts⟩, ty, pos, aft, none⟩ : Oper)).run P w = .ok .recover w := by
    intro a w
    simp [execOp, resolve, invoke, builtin]
  have hfin : ∀ cs', cs' = { c₀ with mode := recU c₀.mode } :: cs →
      c.wpS P (bodyPostS P fn c₀ cs fun e u' w' => ∃ m', Sim m' w' ∧ post e u' m') (Act.put { tmps := args.toArray ++ Array.replicate (fn.ntmps - args.toArray.size) undef, defers := [] } (some d) (recV c₀.mode)) cs' w := by
    intro cs' hcs
    refine wpS_of_wp (wp_mono (WP.wp h _ w ((args_fits hn).put (by simp [putE, hd])) hs) fun ex a' w' hq => ?_)
    subst hcs
    cases ex with
    | normal => obtain ⟨h1, v, h2, m', h3, h4⟩ := hq; exact ⟨h1, _, rfl, v, h2, m', h3, h4⟩
    | ret => obtain ⟨h1, v, h2, m', h3, h4⟩ := hq; exact ⟨h1, _, rfl, v, h2, m', h3, h4⟩
    | panic ch => obtain ⟨h1, m', h3, h4⟩ := hq; exact ⟨h1, _, rfl, m', h3, h4⟩
    | outgrown => obtain ⟨m', h3, h4⟩ := hq; exact ⟨_, m', h3, h4⟩
    | exit id => exact hq
    | goto l => exact hq
  show wpOpsS P _ _ [0] _ _ _
  unfold wpOpsS
  simp only [List.getElem?_toArray, List.getElem?_cons_zero, Region.wanted, if_true, hrun]
  rcases recoverD_eq c₀ cs with hr | ⟨hr, hv, hu⟩
  · rw [hr]
    exact hfin _ rfl
  · rw [hr]
    simp only
    have := hfin (c₀ :: cs) (by rw [hu])
    rw [hv] at this
    exact this
/-- Where the body of a function with deferred calls leads. -/
def bodyQD (P : Program) (fn : Func) (post : Ending → World → Prop) : Exit → Act → World → Prop := bodyPostD P fn fun e w' => ∃ m', Sim m' w' ∧ post e m'
theorem FnE.enterD {c : Code} {post : Ending → World → Prop} (hc : Callable P f)
    (hf : P.funcs[f]? = some fn) (hb : fn.body = some c) (hn : Nat.ble args.length fn.ntmps = true) (h : WP P c (bodyQD P fn post) fn.ntmps (argsEnv 0 args) ⟨[], none⟩ m) : FnE P f args m post :=
  ⟨hc, fun w hs => calls_of_wp_defers hf hb (WP.wp h _ w (args_fits hn) hs)⟩
theorem RL.defer {ops : Array Oper} {Q : Exit → Act → World → Prop} {rest : List Oper} {n : Nat} {e e' : Env} {ds : List Deferred} {d : Option Tmp} {x : Operand} {ts : Array TypeId} {ty : TypeId} {pos : String} {aft : Array Edge} {g : Option (Nat × Bool)} {k : Fn} {fi ca : Array Value}
    (hg : gd ops e ⟨d, .defer ⟨.value x, #[], ts⟩, ty, pos, aft, g⟩ = some true) (hx : e.ev x = some (.func k fi ca)) (hp : putE n d undef e = some e')
    (h : RL P ops Q rest n e' ⟨{ target := .fn k ca, args := fi } :: ds, none⟩ m) : RL P ops Q (⟨d, .defer ⟨.value x, #[], ts⟩, ty, pos, aft, g⟩ :: rest) n e ⟨ds, none⟩ m := by
  refine RL.step hg fun a w hf hs => ⟨fun _ _ => trivial, ?_⟩
  have : (execOp a.eval (⟨d, .defer ⟨.value x, #[], ts⟩, ty, pos, aft, g⟩ : Oper)).run P w = .ok (.defer { target := .fn k ca, args := fi }) w := by
    simp [execOp, resolve, hf.ev hx, Deferred.ofValue]
  show Oper.uponIn _ _ _ _ _ _ _ ((execOp a.eval (⟨d, .defer ⟨.value x, #[], ts⟩, ty, pos, aft, g⟩ : Oper)).run P w)
  rw [this]
  have hf' : Fits n e ⟨{ target := .fn k ca, args := fi } :: ds, none⟩ { a with defers := { target := .fn k ca, args := fi } :: a.defers } := ⟨hf.size, by show _ = _ :: ds; rw [hf.defers], hf.get⟩
  exact h _ w (hf'.put hp) hs
/-- What a function hands back, read off its frame and memory. -/
def Res (P : Program) (fn : Func) (n : Nat) (e : Env) (D : Fr) (m : World) (v : Value) : Prop := ∀ a w, Fits n e D a → Sim m w → (results fn a.tmps).run P w = .ok v w
theorem Res.cell {T : Ty} (hT : T.Ok P) {n : Nat} {e : Env} {D : Fr} {t : Tmp} {ty : TypeId} {p : Addr} {v : Value} (hr : fn.results = #[.cell t ty]) (ht : e.get t = some (.pointer (some p))) (hty : T.plain ty = true) (hc : m.cell? p = some v) : Res P fn n e D m v := by
  intro a w hf hs
  obtain ⟨r, hr', hk, ha, _⟩ := Ty.plain_spec hty
  have h1 := (hT.row hr').run_isAgg hk w
  rw [ha] at h1
  simp [results, hr, hf.get t _ ht, asAddr, loadVar, h1, hs.cell, hc]
theorem Res.cell3 {T : Ty} (hT : T.Ok P) {n : Nat} {e : Env} {D : Fr} {t t' t'' : Tmp} {ty ty' ty'' : TypeId} {p p' p'' : Addr} {v v' v'' : Value} (hr : fn.results = #[.cell t ty, .cell t' ty', .cell t'' ty'']) (ht : e.get t = some (.pointer (some p))) (ht' : e.get t' = some (.pointer (some p'))) (ht'' : e.get t'' = some (.pointer (some p'')))
    (hty : T.plain ty = true) (hty' : T.plain ty' = true) (hty'' : T.plain ty'' = true) (hc : m.cell? p = some v) (hc' : m.cell? p' = some v') (hc'' : m.cell? p'' = some v'') : Res P fn n e D m (.tuple #[v, v', v'']) := by
  intro a w hf hs
  obtain ⟨r, hr1, hk, ha, _⟩ := Ty.plain_spec hty
  have h1 := (hT.row hr1).run_isAgg hk w
  rw [ha] at h1
  obtain ⟨r', hr1', hk', ha', _⟩ := Ty.plain_spec hty'
  have h1' := (hT.row hr1').run_isAgg hk' w
  rw [ha'] at h1'
  obtain ⟨r'', hr1'', hk'', ha'', _⟩ := Ty.plain_spec hty''
  have h1'' := (hT.row hr1'').run_isAgg hk'' w
  rw [ha''] at h1''
  simp [results, hr, hf.get t _ ht, hf.get t' _ ht', hf.get t'' _ ht'', asAddr, loadVar, h1, h1', h1'', hs.cell, hc, hc', hc'']
theorem Res.tmp {n : Nat} {e : Env} {D : Fr} {t : Tmp} {v : Value} (hr : fn.results = #[.tmp t]) (ht : e.get t = some v) : Res P fn n e D m v := by
  intro a w hf _
  rw [results_tmp hr, getD_of_some (hf.get t v ht)]
theorem invoke_fn (hc : Callable P f) (fi ca : Array Value) (w : World) : (invoke (.fn (.func f) ca) fi).run P w = .ok (.enter f (fi ++ ca)) w := by
  obtain ⟨fn, h1, h2, h3⟩ := hc
  simp only [invoke, callFunc, Sem.run_bind, run_program, Result.andThen_ok, h1, h2, h3, Bool.false_eq_true, if_false, Sem.run_pure]
/-- The end of such a function where nothing was deferred yet. -/
theorem QN.leave0 {n : Nat} {e : Env} {post : Ending → World → Prop} {r : Value} (h : Res P fn n e ⟨[], none⟩ m r) (hp : post (.returned r) m) : QN (bodyQD P fn post) .ret n e ⟨[], none⟩ m := by
  intro a w hf hs
  show Leaves P fn a.tmps _ a.defers .returning w
  rw [hf.defers]
  exact ⟨r, h a w hf hs, m, hs, hp⟩
/-- The end of a function with one deferred call. -/
theorem QN.leave {n : Nat} {e : Env} {x : Exit} {fi ca as : List Value} {post : Ending → World → Prop} {dpost : Ending → FrameMode → World → Prop} (hu : (x = .ret ∧ u = .returning) ∨ (x = .normal ∧ u = .returning) ∨ ∃ ch, x = .panic ch ∧ u = .panicking ch)
    (has : fi ++ ca = as) (hc : DfE P f as u m dpost)
    (hret : ∀ v u' m', dpost (.returned v) u' m' → (settle u' = .returning ∧ ∃ r, Res P fn n e ⟨[{ target := .fn (.func f) ca.toArray, args := fi.toArray }], none⟩ m' r ∧ post (.returned r) m') ∨ ∃ ch, settle u' = .panicking ch ∧ post (.panicked ch) m')
    (hpan : ∀ ch u' m', dpost (.panicked ch) u' m' → ∃ ch', raised u' ch = .panicking ch' ∧ post (.panicked ch') m') (hout : ∀ u' m', ¬ dpost .outgrown u' m') :
    QN (bodyQD P fn post) x n e ⟨[{ target := .fn (.func f) ca.toArray, args := fi.toArray }], none⟩ m := by
  intro a w hf hs
  subst has
  have key : Leaves P fn a.tmps (fun e w' => ∃ m', Sim m' w' ∧ post e m') a.defers u w := by
    rw [hf.defers]
    have hu' : u ≠ .run := by rcases hu with ⟨_, rfl⟩ | ⟨_, rfl⟩ | ⟨ch, _, rfl⟩ <;> simp
    refine leaves_cons hu' (invoke_fn hc.1 _ _ w) ?_
    have h1 := hc.2 w hs
    rw [show (fi ++ ca).toArray = fi.toArray ++ ca.toArray by simp] at h1
    refine h1.mono fun ed u' w' ⟨m', hs', hp⟩ => ?_
    cases ed with
    | returned v =>
      rcases hret v u' m' hp with ⟨h2, r, h3, h4⟩ | ⟨ch, h2, h4⟩
      · simp only [h2]; exact ⟨r, h3 a w' hf hs', m', hs', h4⟩
      · simp only [h2]; exact ⟨m', hs', h4⟩
    | panicked ch =>
      obtain ⟨ch', h2, h4⟩ := hpan ch u' m' hp
      simp only [h2]
      exact ⟨m', hs', h4⟩
    | outgrown => exact absurd hp (hout u' m')
  rcases hu with ⟨rfl, rfl⟩ | ⟨rfl, rfl⟩ | ⟨ch, rfl, rfl⟩
  · exact key
  · exact key
  · exact key
end
end Go.Ev
