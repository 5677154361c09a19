/- Memory in a walk: what a step changes, blocks known whole, slices that are read, rows that are owned; the operations that touch memory. No conditions. -/
import Derived.Test.YtmjpcaiehfimgaaPure
import Derived.Great.BuildSlice
namespace Go.Ev
open Go.RowKit

/-- Block b (an old one, or the next new one) is o; all else is as it was. -/
structure Chg (m : World) (b : Nat) (o : Obj) (m' : World) : Prop where
  os : m'.os = m.os
  tape : m'.tape = m.tape
  output : m'.output = m.output
  here : m'.heap[b]? = some o
  far : ∀ k, k ≠ b → m'.heap[k]? = m.heap[k]?
  size : m'.heap.size = max m.heap.size (b + 1)
  drawn : m.drawn ≤ m'.drawn
/-- All blocks but those of M are as they were. -/
structure Ext (m : World) (M : List Nat) (m' : World) : Prop where
  os : m'.os = m.os
  tape : m'.tape = m.tape
  output : m'.output = m.output
  size : m.heap.size ≤ m'.heap.size
  far : ∀ k, k < m.heap.size → k ∉ M → m'.heap[k]? = m.heap[k]?
  drawn : m.drawn ≤ m'.drawn
/-- A block known whole. -/
def Blk (m : World) (b : Nat) (t : TypeId) (cs : List Value) : Prop := m.heap[b]? = some (.cells cs.toArray t (0, 0))

section
variable {m m' m'' w : World} {M M' : List Nat} {b : Nat} {o : Obj} {t : TypeId} {cs : List Value}
theorem Ext.refl (m : World) (M : List Nat) : Ext m M m := ⟨rfl, rfl, rfl, Nat.le_refl _, fun _ _ _ => rfl, Nat.le_refl _⟩
theorem Ext.mono (h : Ext m M m') (hM : ∀ k ∈ M, k < m.heap.size → k ∈ M') : Ext m M' m' := ⟨h.os, h.tape, h.output, h.size, fun k hk hn => h.far k hk fun hm => hn (hM k hm hk), h.drawn⟩
theorem Ext.trans (h : Ext m M m') (h' : Ext m' M' m'') (hM : ∀ k ∈ M', k ∈ M ∨ m.heap.size ≤ k) : Ext m M m'' :=
  ⟨h'.os.trans h.os, h'.tape.trans h.tape, h'.output.trans h.output, Nat.le_trans h.size h'.size, fun k hk hn =>
    (h'.far k (Nat.lt_of_lt_of_le hk h.size) fun hm => by rcases hM k hm with h1 | h1; exact hn h1; omega).trans (h.far k hk hn), Nat.le_trans h.drawn h'.drawn⟩
theorem Ext.below (h : Ext m [] m') : Below m.heap.size m m' := ⟨h.os, h.tape, h.output, h.size, fun k hk => h.far k hk (by simp)⟩
theorem Ext.cell (h : Ext m M m') {a : Addr} {v : Value} (hn : a.block ∉ M) (hc : m.cell? a = some v) : m'.cell? a = some v :=
  (World.cell?_of_block (h.far a.block (World.block_lt_of_cell? m a hc) hn)).trans hc
theorem Chg.ext (h : Chg m b o m') : Ext m [b] m' := ⟨h.os, h.tape, h.output, by rw [h.size]; omega, fun k _ hn => h.far k (by simpa using hn), h.drawn⟩
theorem Chg.new (h : Chg m b o m') (hb : m.heap.size ≤ b) : Ext m [] m' := ⟨h.os, h.tape, h.output, by rw [h.size]; omega, fun k hk _ => h.far k (by omega), h.drawn⟩
theorem Blk.lt (h : Blk m b t cs) : b < m.heap.size := (Array.getElem?_eq_some_iff.1 h).1
theorem Blk.cell (h : Blk m b t cs) (i : Nat) {v : Value} (hv : cs[i]? = some v) : m.cell? ⟨b, i, none⟩ = some v := by
  unfold Blk at h
  simp [World.cell?, h, hv]
theorem Blk.ext (h : Blk m b t cs) (hE : Ext m M m') (hn : b ∉ M) : Blk m' b t cs := (hE.far b h.lt hn).trans h
theorem Blk.far (h : Blk m b t cs) {b' : Nat} (hC : Chg m b' o m') (hn : b ≠ b') : Blk m' b t cs := (hC.far b hn).trans h
theorem Chg.blk (h : Chg m b (.cells cs.toArray t (0, 0)) m') : Blk m' b t cs := h.here
theorem Chg.alloc (m : World) (o : Obj) : Chg m m.heap.size o (m.alloc o) :=
  ⟨rfl, rfl, rfl, heap_alloc_new m o, fun k hk => by
    rcases Nat.lt_or_ge k m.heap.size with h | h
    · exact Below.heap_alloc m o k h
    · show (m.heap.push o)[k]? = m.heap[k]?
      rw [Array.getElem?_eq_none (by simp; omega), Array.getElem?_eq_none h], by simp, Nat.le_refl _⟩
theorem Chg.alloc' {w : World} (hs : Sim m w) (o : Obj) : ∃ m', Chg m m.heap.size o m' ∧ Sim m' (w.alloc o) := ⟨m.alloc o, Chg.alloc m o, hs.alloc o⟩
theorem Sim.size (h : Sim m w) : w.heap.size = m.heap.size := by rw [h.heap]
theorem setRow_chg (h : m.heap[b]? = some (.cells cs.toArray t (0, 0))) (cs' : List Value) : Chg m b (.cells cs'.toArray t (0, 0)) (m.setRow b cs'.toArray) := by
  refine ⟨rfl, rfl, rfl, setRow_heap m b cs.toArray cs'.toArray t (0, 0) h, fun k hk => setRow_other m b k _ hk, ?_, Nat.le_refl _⟩
  have := (Array.getElem?_eq_some_iff.1 h).1
  simp [World.setRow]; omega
theorem Sim.setRow {w : World} (h : Sim m w) (b : Nat) (c : Array Value) : Sim (m.setRow b c) (w.setRow b c) := ⟨by simp [World.setRow, h.heap], h.os, h.output, h.tape, h.drawn⟩
end

/-- A slice that reads as the cells xs ('sz' cells an element); its block is none of M. -/
def Sl (m : World) (M : List Nat) (sz : Nat) (v : Value) (xs : List Value) : Prop :=
  ∃ (A : Option Addr) (n c : Nat), v = .slice A n c ∧ n ≤ c ∧ c ≤ maxLen ∧ xs.length = n * sz ∧ (A = none → c = 0) ∧
    (0 < n → ∃ ad, A = some ad ∧ ad.block ∉ M ∧ ∀ j u, xs[j]? = some u → m.cell? (ad.add j) = some u)
section
variable {m m' : World} {M M' : List Nat} {sz : Nat} {v : Value} {xs : List Value}
theorem Sl.nil (m : World) (M : List Nat) (sz : Nat) : Sl m M sz (.slice none 0 0) [] := ⟨none, 0, 0, rfl, Nat.le_refl _, Nat.zero_le _, by simp, fun _ => rfl, fun h => absurd h (by omega)⟩
theorem block_add (a : Addr) (n : Nat) : (a.add n).block = a.block := by unfold Addr.add; split <;> rfl
theorem add_add (a : Addr) (i j : Nat) : (a.add i).add j = a.add (i + j) := by
  unfold Addr.add
  by_cases hi : i = 0 <;> by_cases hj : j = 0 <;> simp [hi, hj, Nat.add_assoc]
theorem add_block (b o i : Nat) : (⟨b, o, none⟩ : Addr).add i = ⟨b, o + i, none⟩ := by unfold Addr.add; split <;> simp_all
/-- The slice is still read so, behind whatever leaves its block; and it may be asked to keep out of fewer blocks, or of new ones. -/
theorem Sl.ext (h : Sl m M sz v xs) (hE : Ext m M m') (hM : ∀ k ∈ M', k ∈ M ∨ m.heap.size ≤ k) (hsz : 0 < sz) : Sl m' M' sz v xs := by
  obtain ⟨A, n, c, hv, hnc, hc, hl, hA, hr⟩ := h
  refine ⟨A, n, c, hv, hnc, hc, hl, hA, fun hn => ?_⟩
  obtain ⟨ad, had, hb, hcell⟩ := hr hn
  have h0 : 0 < xs.length := by rw [hl]; exact Nat.mul_pos hn hsz
  have hlt : ad.block < m.heap.size := by
    have := World.block_lt_of_cell? m _ (hcell 0 _ (List.getElem?_eq_getElem h0))
    rwa [block_add] at this
  refine ⟨ad, had, fun hk => by rcases hM _ hk with h1 | h1; exact hb h1; omega, fun j u hu => hE.cell (by rw [block_add]; exact hb) (hcell j u hu)⟩
theorem Sl.less (h : Sl m M sz v xs) (hM : ∀ k ∈ M', k ∈ M ∨ m.heap.size ≤ k) (hsz : 0 < sz) : Sl m M' sz v xs := h.ext (Ext.refl m M) hM hsz
/-- A block of one's own, whole, from its head. -/
theorem Sl.of_blk {b : Nat} {t : TypeId} {cs : List Value} {n c : Nat} (h : Blk m b t cs) (hb : b ∉ M) (hl : n * sz ≤ cs.length) (hnc : n ≤ c) (hc : c ≤ maxLen) : Sl m M sz (.slice (some ⟨b, 0, none⟩) n c) (cs.take (n * sz)) :=
  ⟨_, n, c, rfl, hnc, hc, by simp; omega, fun h => (by cases h), fun _ => ⟨_, rfl, hb, fun j u hu => by
    rw [add_block]
    rw [List.getElem?_take] at hu
    split at hu
    · exact h.cell _ (by simpa using hu)
    · cases hu⟩⟩
theorem Sl.of_own {base : Nat} {t : TypeId} {n : Nat} (h : m.ownsRow base t sz v n xs) (hM : ∀ k, v.ownBlock = some k → k ∉ M) : Sl m M sz v xs := by
  obtain ⟨hl, h⟩ := h
  rcases h with ⟨rfl, rfl⟩ | ⟨g, cap, cur, rfl, hg, hh, hnc, hc, hs, ht⟩
  · have : xs = [] := List.eq_nil_of_length_eq_zero (by simpa using hl)
    subst this
    exact Sl.nil m M sz
  · refine ⟨_, n, cap, rfl, hnc, hc, hl, fun h => by (cases h), fun _ => ⟨_, rfl, hM g rfl, fun j u hu => ?_⟩⟩
    rw [add_block]
    have hj : j < n * sz := by
      have := (List.getElem?_eq_some_iff.1 hu).1
      omega
    rw [← ht, List.getElem?_take, if_pos hj] at hu
    simp [World.cell?, hh]
    simpa using hu
end

section
variable {P : Program} {T : Ty} {ops : Array Oper} {Q : Exit → Act → World → Prop} {l rest : List Oper} {n : Nat} {e e' : Env} {D : Fr} {m : World}
  {d : Option Tmp} {x y : Operand} {t ty : TypeId} {pos : String} {aft : Array Edge} {g : Option (Nat × Bool)} {p : Addr} {v : Value} {r : Row}

/-- A type whose variables have one cell, for certain. -/
def Ty.plain (T : Ty) (t : TypeId) : Bool := match T.row t with
  | some r => match r.k.known with
    | true => match r.k.agg with
      | true => false
      | false => match r.size with
        | 1 => true
        | _ => false
    | false => false
  | none => false
theorem Ty.plain_spec {T : Ty} (h : T.plain t = true) : ∃ r, T.row t = some r ∧ r.k.known = true ∧ r.k.agg = false ∧ r.size = 1 := by
  unfold Ty.plain at h
  split at h
  · rename_i r hr
    split at h
    · rename_i hk
      split at h
      · cases h
      · rename_i ha
        split at h
        · rename_i hs; exact ⟨r, hr, hk, ha, hs⟩
        · cases h
    · cases h
  · cases h
def Ty.aggN (T : Ty) (t : TypeId) : Option Nat := match T.row t with
  | some r => match r.k.agg with
    | true => some r.size
    | false => none
  | none => none
theorem Ty.aggN_spec {T : Ty} {k : Nat} (h : T.aggN t = some k) : ∃ r, T.row t = some r ∧ r.k.agg = true ∧ r.size = k := by
  unfold Ty.aggN at h
  split at h
  · rename_i r hr
    split at h
    · rename_i ha; exact ⟨r, hr, ha, Option.some.inj h⟩
    · cases h
  · cases h
theorem TyK.known_of_agg {k : TyK} (h : k.agg = true) : k.known = true := by cases k <;> simp_all [TyK.agg, TyK.known]

theorem RL.load (hT : T.Ok P) (hg : gd ops e ⟨d, .load t x, ty, pos, aft, g⟩ = some true) (hx : e.ev x = some (.pointer (some p))) (ht : T.plain t = true)
    (hc : m.cell? p = some v) (hp : putE n d v e = some e') (h : RL P ops Q rest n e' D m) : RL P ops Q (⟨d, .load t x, ty, pos, aft, g⟩ :: rest) n e D m := by
  obtain ⟨r, hr, hk, ha, _⟩ := Ty.plain_spec ht
  refine RL.value v hg (fun a w hf hs => ?_) hp h
  have h1 := (hT.row hr).run_isAgg hk w
  rw [ha] at h1
  simp [execOp, hf.ev hx, Instr.loadAt, Instr.sureAddr, loadVar, h1, hs.cell, hc]
/-- A whole struct, or array. -/
theorem RL.loadAgg (hT : T.Ok P) (vs : List Value) (hg : gd ops e ⟨d, .load t x, ty, pos, aft, g⟩ = some true) (hx : e.ev x = some (.pointer (some p))) (ht : T.aggN t = some vs.length)
    (hc : ∀ j u, vs[j]? = some u → m.cell? (p.add j) = some u) (hp : putE n d (.agg vs.toArray) e = some e') (h : RL P ops Q rest n e' D m) : RL P ops Q (⟨d, .load t x, ty, pos, aft, g⟩ :: rest) n e D m := by
  obtain ⟨r, hr, ha, hsz⟩ := Ty.aggN_spec ht
  refine RL.value _ hg (fun a w hf hs => ?_) hp h
  have h1 := (hT.row hr).run_isAgg (TyK.known_of_agg ha) w
  rw [ha] at h1
  have h2 := (hT.row hr).run_size w
  rw [hsz] at h2
  have h3 := run_loadCells_list (P := P) w p vs (fun j u hu => (hs.cell _).trans (hc j u hu))
  simp [execOp, hf.ev hx, Instr.loadAt, Instr.sureAddr, loadVar, h1, h2, h3]
theorem cells_of_one {v : Value} (h : v.oneCell' = true) : v.cells = #[v] := by cases v <;> simp_all [Value.cells, Value.oneCell']
/-- A store of one cell into a block that is known whole. -/
theorem RL.store (hT : T.Ok P) {b i : Nat} {tb : TypeId} {cs : List Value} (hB : Blk m b tb cs) (hi : i < cs.length) (hg : gd ops e ⟨d, .store t x y, ty, pos, aft, g⟩ = some true)
    (hx : e.ev x = some (.pointer (some ⟨b, i, none⟩))) (hy : e.ev y = some v) (ht : T.plain t = true) (h1 : v.oneCell' = true) (hp : putE n d undef e = some e')
    (h : ∀ m', Chg m b (.cells (cs.set i v).toArray tb (0, 0)) m' → RL P ops Q rest n e' D m') : RL P ops Q (⟨d, .store t x y, ty, pos, aft, g⟩ :: rest) n e D m := by
  obtain ⟨r, hr, hk, ha, hsz⟩ := Ty.plain_spec ht
  refine RL.skipW (m.setRow b (cs.set i v).toArray) hg (fun a w hf hs => ?_) hp (h _ (setRow_chg hB _))
  have h2 := (hT.row hr).run_size w
  rw [hsz] at h2
  have hw : w.heap[b]? = some (.cells cs.toArray tb (0, 0)) := by rw [hs.heap]; exact hB
  have h3 := run_storeCells_at P b i tb [v] 0 cs.toArray w hw (by simp; omega) (fun u hu => by simp at hu; subst hu; exact h1)
  refine ⟨w.setRow b (cs.set i v).toArray, ?_, hs.setRow b _⟩
  have h4 : (cs.take (i + 0) ++ [v] ++ cs.drop (i + 0 + [v].length)) = cs.set i v := by
    rw [List.set_eq_take_append_cons_drop, if_pos hi]; simp
  rw [show (cs.toArray.toList.take (i + 0) ++ [v] ++ cs.toArray.toList.drop (i + 0 + [v].length)).toArray = (cs.set i v).toArray by rw [← h4]] at h3
  simp [execOp, hf.ev hx, hf.ev hy, Instr.storeAt, Instr.sureAddr, storeVar, h2, cells_of_one h1, h3]
/-- A store of a struct or array. -/
theorem RL.storeAgg (hT : T.Ok P) {b i k : Nat} {tb : TypeId} {cs vs : List Value} (hB : Blk m b tb cs) (hg : gd ops e ⟨d, .store t x y, ty, pos, aft, g⟩ = some true)
    (hx : e.ev x = some (.pointer (some ⟨b, i, none⟩))) (hy : e.ev y = some (.agg vs.toArray)) (ht : T.aggN t = some k) (hk : vs.length = k) (hi : i + k ≤ cs.length) (h1 : ∀ v ∈ vs, v.oneCell' = true) (hp : putE n d undef e = some e')
    (h : ∀ m', Chg m b (.cells (cs.take i ++ vs ++ cs.drop (i + k)).toArray tb (0, 0)) m' → RL P ops Q rest n e' D m') : RL P ops Q (⟨d, .store t x y, ty, pos, aft, g⟩ :: rest) n e D m := by
  obtain ⟨r, hr, ha, hsz⟩ := Ty.aggN_spec ht
  subst hk
  refine RL.skipW (m.setRow b (cs.take i ++ vs ++ cs.drop (i + vs.length)).toArray) hg (fun a w hf hs => ?_) hp (h _ (setRow_chg hB _))
  have h2 := (hT.row hr).run_size w
  rw [hsz] at h2
  have hw : w.heap[b]? = some (.cells cs.toArray tb (0, 0)) := by rw [hs.heap]; exact hB
  have h3 := run_storeCells_at P b i tb vs 0 cs.toArray w hw (by simp; omega) h1
  refine ⟨w.setRow b (cs.take i ++ vs ++ cs.drop (i + vs.length)).toArray, ?_, hs.setRow b _⟩
  simp only [Nat.add_zero] at h3
  simp [execOp, hf.ev hx, hf.ev hy, Instr.storeAt, Instr.sureAddr, storeVar, h2, Value.cells]
  simp only [List.append_assoc] at h3
  rw [h3]
  rfl
theorem RL.alloc (hT : T.Ok P) (hr : T.row t = some r) (hg : gd ops e ⟨d, .alloc t, ty, pos, aft, g⟩ = some true)
    (h : ∀ b m', b = m.heap.size → Chg m b (.cells r.zero.cells t (0, 0)) m' → ∃ e', putE n d (.pointer (some ⟨b, 0, none⟩)) e = some e' ∧ RL P ops Q rest n e' D m') : RL P ops Q (⟨d, .alloc t, ty, pos, aft, g⟩ :: rest) n e D m := by
  obtain ⟨e', hp, hk⟩ := h m.heap.size _ rfl (Chg.alloc m _)
  refine RL.valueW _ _ hg (fun a w hf hs => ⟨_, ?_, hs.alloc _⟩) hp hk
  simp [execOp, Instr.alloc, (hT.row hr).run_zero, newVar, newRow, hs.size]
theorem RL.box (hx : e.ev x = some v) (hg : gd ops e ⟨d, .box t x, ty, pos, aft, g⟩ = some true)
    (h : ∀ b m', b = m.heap.size → Chg m b (.cells v.cells t (0, 0)) m' → ∃ e', putE n d (.pointer (some ⟨b, 0, none⟩)) e = some e' ∧ RL P ops Q rest n e' D m') : RL P ops Q (⟨d, .box t x, ty, pos, aft, g⟩ :: rest) n e D m := by
  obtain ⟨e', hp, hk⟩ := h m.heap.size _ rfl (Chg.alloc m _)
  refine RL.valueW _ _ hg (fun a w hf hs => ⟨_, ?_, hs.alloc _⟩) hp hk
  simp [execOp, Instr.box, hf.ev hx, newVar, newRow, hs.size]

/-! ### Calls -/
theorem callFunc_run {f : FuncId} (hc : Callable P f) (args : Array Value) (w : World) : (callFunc f args).run P w = .ok (.enter f args) w := by
  obtain ⟨fn, hf, hn, hb⟩ := hc
  simp only [callFunc, Sem.run_bind, run_program, Result.andThen_ok, hf, hn, hb, Bool.false_eq_true, if_false, Sem.run_pure]
theorem call_run {f : FuncId} {fo : Operand} {xs : Array Operand} {ts : Array TypeId} {fi ca : Array Value} {vs : List Value} {a : Act} (hf : Fits n e D a) (hc : Callable P f)
    (hfo : e.ev fo = some (.func (.func f) fi ca)) (hxs : e.evs xs.toList = some vs) (w : World) :
    (execOp a.eval ⟨d, .call ⟨.value fo, xs, ts⟩, ty, pos, aft, g⟩).run P w = .ok (.enter f (fi.toList ++ vs ++ ca.toList).toArray) w := by
  have h1 : xs.map a.eval = vs.toArray := Array.ext' (by rw [Array.toList_map]; exact hf.evs hxs)
  simp [execOp, resolve, hf.ev hfo, Deferred.ofValue, invoke, h1, callFunc_run hc]
/-- A call whose contract says that it returns. -/
theorem RL.call {f : FuncId} {fo : Operand} {xs : Array Operand} {ts : Array TypeId} {fi ca : List Value} {vs as : List Value} {post : Value → World → Prop}
    (hg : gd ops e ⟨d, .call ⟨.value fo, xs, ts⟩, ty, pos, aft, g⟩ = some true)
    (hfo : e.ev fo = some (.func (.func f) fi.toArray ca.toArray)) (hxs : e.evs xs.toList = some vs) (has : fi ++ vs ++ ca = as) (hc : FnR P f as m post)
    (h : ∀ v m', post v m' → ∃ e', putE n d v e = some e' ∧ RL P ops Q rest n e' D m') : RL P ops Q (⟨d, .call ⟨.value fo, xs, ts⟩, ty, pos, aft, g⟩ :: rest) n e D m := by
  subst has
  refine RL.run hg (fun _ hh => by cases hh) fun a w hf hs => ?_
  rw [call_run hf hc.1 hfo hxs w]
  refine ⟨(fun hh => by cases hh), Calls.fr D _ ((hc.2 w hs).mono fun ed w' ⟨m', hs', v, he, hpost⟩ => ?_)⟩
  subst he
  obtain ⟨e', hp, hk⟩ := h v m' hpost
  exact hk _ w' (hf.put hp) hs'
/-- A call that may panic. -/
theorem RL.callE {f : FuncId} {fo : Operand} {xs : Array Operand} {ts : Array TypeId} {fi ca : List Value} {vs as : List Value} {post : Ending → World → Prop}
    (hg : gd ops e ⟨d, .call ⟨.value fo, xs, ts⟩, ty, pos, aft, g⟩ = some true)
    (hfo : e.ev fo = some (.func (.func f) fi.toArray ca.toArray)) (hxs : e.evs xs.toList = some vs) (has : fi ++ vs ++ ca = as) (hc : FnE P f as m post)
    (h : ∀ v m', post (.returned v) m' → ∃ e', putE n d v e = some e' ∧ RL P ops Q rest n e' D m')
    (hpan : ∀ ch m', post (.panicked ch) m' → QN Q (.panic ch) n e D m') (hout : ∀ m', ¬ post .outgrown m') : RL P ops Q (⟨d, .call ⟨.value fo, xs, ts⟩, ty, pos, aft, g⟩ :: rest) n e D m := by
  subst has
  refine RL.run hg (fun _ hh => by cases hh) fun a w hf hs => ?_
  rw [call_run hf hc.1 hfo hxs w]
  refine ⟨(fun hh => by cases hh), Calls.fr D _ ((hc.2 w hs).mono fun ed w' ⟨m', hs', hpost⟩ => ?_)⟩
  cases ed with
  | returned v =>
    obtain ⟨e', hp, hk⟩ := h v m' hpost
    exact hk _ w' (hf.put hp) hs'
  | panicked ch => exact hpan ch m' hpost a w' hf hs'
  | outgrown => exact absurd hpost (hout m')
/-- panic(v). -/
theorem RL.panic {v : Value} {tt : TypeId} {u : Value} (hv : v = .iface tt u) (hg : gd ops e ⟨d, .panic x, ty, pos, aft, g⟩ = some true) (hx : e.ev x = some v)
    (h : QN Q (.panic [{ v, recovered := false }]) n e D m) : RL P ops Q (⟨d, .panic x, ty, pos, aft, g⟩ :: rest) n e D m := by
  subst hv
  refine RL.run hg (fun _ hh => by cases hh) fun a w hf hs => ?_
  have : (execOp a.eval ⟨d, .panic x, ty, pos, aft, g⟩).run P w = .halt (.panic (.iface tt u)) w := by
    simp [execOp, hf.ev hx, Instr.panic]
  rw [this]
  exact h a w hf hs

/-! ### Slices -/
theorem RL.indexAddr (hT : T.Ok P) {te : TypeId} {ad : Addr} {len cap k : Nat} {j : Int} {kk : IntKind} {rt : Row} (hrt : T.row t = some rt) (hk : rt.k = .sli te) (hr : T.row te = some r)
    (hg : gd ops e ⟨d, .indexAddr t x y, ty, pos, aft, g⟩ = some true) (hx : e.ev x = some (.slice (some ad) len cap)) (hy : e.ev y = some (.int kk j)) (hj : j = (k : Int)) (hlt : k < len)
    (hp : putE n d (.pointer (some (ad.add (k * r.size)))) e = some e') (h : RL P ops Q rest n e' D m) : RL P ops Q (⟨d, .indexAddr t x y, ty, pos, aft, g⟩ :: rest) n e D m := by
  subst hj
  have hu := (hT.row hrt).k
  rw [hk] at hu
  refine RL.value _ hg (fun a w hf hs => ?_) hp h
  simp [execOp, hf.ev hx, hf.ev hy, Instr.indexAt, asIntOf, run_underlying hu, (hT.row hr).run_size, hlt]
end

section
variable {P : Program} {T : Ty} {ops : Array Oper} {Q : Exit → Act → World → Prop} {rest : List Oper} {n : Nat} {e e' : Env} {D : Fr} {m : World}
  {d : Option Tmp} {x y : Operand} {t ty ty1 : TypeId} {pos pos1 : String} {aft aft1 : Array Edge} {v : Value} {r : Row}
def notTmp (x : Operand) (d1 : Tmp) : Bool := match x with
  | .tmp k => match Nat.beq k d1 with
    | true => false
    | false => true
  | _ => true
theorem ev_far {x : Operand} {d1 : Tmp} {u : Value} (h : notTmp x d1 = true) : Env.ev ((d1, u) :: e) x = e.ev x := by
  cases x with
  | tmp k =>
    unfold notTmp at h
    simp only at h
    split at h
    · cases h
    · rename_i hb
      have hb := Nat.ne_of_beq_eq_false hb
      have hb' : Nat.beq d1 k = false := by
        cases hq : Nat.beq d1 k with
        | false => rfl
        | true => exact absurd (Nat.eq_of_beq_eq_true hq).symm hb
      simp [Env.ev, Env.get, hb']
  | _ => rfl
end
end Go.Ev
