/- append(nil, make([]E, k)...): a fresh row of k zeros (what slices.Grow does). No conditions. -/
import Derived.Test.YtmjpcaiehfimgaaSlice
import Derived.Test.YtmjpcaiehfimgaaWireP
namespace Go.Ev
open Go.RowKit
/-- A row that the call made: its blocks are new, and nothing else has turned. -/
def New (m : World) (S' : List Nat) (m' : World) : Prop := Ext m [] m' ∧ FpNew m [] S'
theorem New.ge {m m' : World} {S' : List Nat} (h : New m S' m') : ∀ k ∈ S', m.heap.size ≤ k := fun k hk => by
  rcases h.2 k hk with h1 | h1
  · cases h1
  · exact h1
section
variable {P : Program} {T : Ty} {ops : Array Oper} {Q : Exit → Act → World → Prop} {rest : List Oper} {n : Nat} {e e' : Env} {D : Fr} {m w : World}
  {d : Option Tmp} {x y : Operand} {t te ti ty : TypeId} {pos : String} {aft : Array Edge} {g : Option (Nat × Bool)} {rt r : Row}
theorem appendMake_run (hT : T.Ok P) (hrt : T.row t = some rt) (hk : rt.k = .sli te) (hr : T.row te = some r) (hcz : r.zero.cells.size = r.size) (hsz : 0 < r.size) (hti : P.underlying ti = some (.int .i64))
    {k : Nat} (hk0 : 0 < k) (hmax : k ≤ maxLen) (hbytes : k * r.bytes ≤ 140737488355328) (hs : Sim m w) (ty : TypeId) :
    ∃ cap cur w', (Builtin.append_ #[t, ti] ty #[.slice none 0 0, .int .i64 k]).run P w = .ok (.slice (some ⟨m.heap.size, 0, none⟩) k cap) w' ∧ Blk w' m.heap.size te cur ∧ k ≤ cap ∧ cap ≤ maxLen ∧ cur.length = cap * r.size ∧ Ext m [] w' := by
  have hu := (hT.row hrt).k
  rw [hk] at hu
  obtain ⟨i, hi, hz0, hz1, hz2⟩ := (hT.row hr).parts
  have hmx : k ≤ 9223372036854775807 := by unfold maxLen at hmax; omega
  have hwr : IntKind.i64.wrap (k : Int) = k := wrap_i64_in _ (by omega) (by omega)
  have h63 : ¬ ((9223372036854775807 : Int) < (k : Int)) := by omega
  have hmk : max (k : Int) 0 = k := by omega
  have hneg : ¬ ((k : Int) < 0) := by omega
  have h48 : ¬ (281474976710656 < Builtin.nextslicecap k 0 * i.bytes) := by
    rw [hz2]
    have := growslice_fits (old := 0) (need := k) (by omega) hbytes
    omega
  have hge := grownCap_ge w k 0 te
  have hcm := grownCap_le_maxLen w k 0 te hmax
  have hb48 : ¬ ((281474976710656 : Int) < (k : Int) * (i.bytes : Int)) := by
    rw [hz2]
    have : (k : Int) * (r.bytes : Int) ≤ 140737488355328 := by rw [← Int.natCast_mul]; omega
    omega
  have hns : ¬ (k * r.size = 0) := Nat.ne_of_gt (Nat.mul_pos hk0 hsz)
  have hb : Blk (w.drew.alloc (.cells ((Builtin.zeroCells r.zero.cells k).toList ++ (Builtin.zeroCells r.zero.cells (grownCap w k 0 te - k)).toList).toArray te)) w.heap.size te ((Builtin.zeroCells r.zero.cells k).toList ++ (Builtin.zeroCells r.zero.cells (grownCap w k 0 te - k)).toList) := heap_alloc_new w.drew _
  refine ⟨grownCap w k 0 te, _, w.drew.alloc (.cells ((Builtin.zeroCells r.zero.cells k).toList ++ (Builtin.zeroCells r.zero.cells (grownCap w k 0 te - k)).toList).toArray te), ?_, by rw [← hs.size]; exact hb, hge, hcm, ?_, ?_⟩
  · have hk0' : ¬ (k = 0) := by omega
    simp [Builtin.append_, run_underlying hu, run_underlying hti, sizeOf, typeInfo, zeroValue, hi, hz0, hz1, asIntOf, hwr, hb48, asInt, h48, h63, hmk, hneg, newRow, Question.forced, grownCap, Builtin.firstCells, hk0', ← hs.size]
    rw [if_neg hns]
    congr 3
    apply Array.ext'; simp
  · simp only [List.length_append, size_zero, hcz, ← Nat.add_mul]; congr 1; omega
  · refine ⟨hs.os, hs.tape, hs.output, by simp [hs.size], fun q hq _ => ?_, Nat.le_succ_of_le hs.drawn⟩
    rw [Below.heap_alloc w.drew _ q (by show q < w.heap.size; rw [hs.size]; exact hq)]
    show w.heap[q]? = _
    rw [hs.heap]
theorem RL.appendMake (hT : T.Ok P) (he : T.elem t = some (te, r)) (hti : (T.row ti).map (·.k) = some (.int .i64)) {k : Nat} {j : Int}
    (hg : gd ops e ⟨d, .call ⟨.builtin .append, #[x, y], #[t, ti]⟩, ty, pos, aft, g⟩ = some true) (hx : e.ev x = some (.slice none 0 0)) (hy : e.ev y = some (.int .i64 j)) (hj : j = (k : Int)) (hk0 : 0 < k) (hmax : k ≤ maxLen) (hbytes : k * r.bytes ≤ 140737488355328)
    (h : ∀ cap cur m', Blk m' m.heap.size te cur → k ≤ cap → cap ≤ maxLen → cur.length = cap * r.size → Ext m [] m' → ∃ e', putE n d (.slice (some ⟨m.heap.size, 0, none⟩) k cap) e = some e' ∧ RL P ops Q rest n e' D m') :
    RL P ops Q (⟨d, .call ⟨.builtin .append, #[x, y], #[t, ti]⟩, ty, pos, aft, g⟩ :: rest) n e D m := by
  subst hj
  obtain ⟨rt, hrt, hk, hr, hcz, hsz, _⟩ := Ty.elem_spec he
  obtain ⟨r1, hr1, hr1'⟩ := Option.map_eq_some_iff.1 hti
  have h1 := (hT.row hr1).k; rw [hr1'] at h1
  refine RL.valueX (R := fun v' m' => ∃ cap cur, v' = .slice (some ⟨m.heap.size, 0, none⟩) k cap ∧ Blk m' m.heap.size te cur ∧ k ≤ cap ∧ cap ≤ maxLen ∧ cur.length = cap * r.size ∧ Ext m [] m') hg (fun a w hf hs => ?_)
    (fun v' m' ⟨cap, cur, hv, h2, h3, h4, h5, h6⟩ => by subst hv; exact h cap cur m' h2 h3 h4 h5 h6)
  obtain ⟨cap, cur, w', h2, h3, h4, h5, h6, h7⟩ := appendMake_run hT hrt hk hr hcz hsz h1 hk0 hmax hbytes hs ty
  refine ⟨_, w', w', ?_, Sim.refl _, cap, cur, rfl, h3, h4, h5, h6, h7⟩
  simp [execOp, resolve, invoke, builtin, hf.ev hx, hf.ev hy, h2]
/-- A row's head cut to nothing. -/
theorem Own.cut0 {b cap : Nat} {cur : List Value} {sz : Nat} (h : Blk m b te cur) (hcap : cap ≤ maxLen) (hl : cur.length = cap * sz) : Own m [b] te sz (.slice (some ⟨b, 0, none⟩) 0 cap) 0 [] :=
  ⟨by simp, .inr ⟨b, cap, cur, rfl, h, Nat.zero_le _, hcap, hl, by simp, rfl⟩⟩
/-- make([]E, k) of one-cell elements. -/
theorem RL.makeSlice (hT : T.Ok P) (he : T.elem t = some (te, r)) {z : Value} (hz : r.zero.cells = #[z]) (hs1 : r.size = 1) {k : Nat} {j : Int}
    (hg : gd ops e ⟨d, .makeSlice t x y, ty, pos, aft, g⟩ = some true) (hx : e.ev x = some (.int .i64 j)) (hy : e.ev y = some (.int .i64 j)) (hj : j = (k : Int)) (hk0 : 0 < k) (hmax : k ≤ 9223372036854775807) (hbytes : r.bytes * k ≤ 140737488355328)
    (h : ∀ b m', b = m.heap.size → Chg m b (.cells (List.replicate k z).toArray te (0, 0)) m' → ∃ e', putE n d (.slice (some ⟨b, 0, none⟩) k k) e = some e' ∧ RL P ops Q rest n e' D m') :
    RL P ops Q (⟨d, .makeSlice t x y, ty, pos, aft, g⟩ :: rest) n e D m := by
  subst hj
  obtain ⟨rt, hrt, hk, hr, _, _, _⟩ := Ty.elem_spec he
  have hu := (hT.row hrt).k
  rw [hk] at hu
  obtain ⟨i, hi, hz0, hz1, hz2⟩ := (hT.row hr).parts
  obtain ⟨e', hp, hkk⟩ := h m.heap.size _ rfl (Chg.alloc m _)
  refine RL.valueW _ _ hg (fun a w hf hs => ⟨_, ?_, hs.alloc _⟩) hp hkk
  have hwr : IntKind.i64.wrap (k : Int) = k := wrap_i64_in _ (by omega) (by omega)
  have hb48 : ¬ ((281474976710656 : Int) < (i.bytes : Int) * (k : Int)) := by
    rw [hz2]
    have : (r.bytes : Int) * (k : Int) ≤ 140737488355328 := by rw [← Int.natCast_mul]; omega
    omega
  have hneg : ¬ ((k : Int) < 0) := by omega
  have hk0' : ¬ (k = 0) := by omega
  have hcells : ((Array.range k).map fun q => (#[z] : Array Value)[q % (#[z] : Array Value).size]!) = (List.replicate k z).toArray := by
    apply Array.ext
    · simp
    · intro q h1 h2
      simp [Nat.mod_one]
  simp [execOp, hf.ev hx, hf.ev hy, Instr.makeSlice, run_underlying hu, asInt, asIntOf, typeInfo, hi, sizeOf, zeroValue, hz0, hz1, hs1, hwr, hb48, hneg, hk0', newRow, hz, ← hs.size]
  exact congrArg (fun c => w.alloc (.cells c te)) (by simpa using hcells)
end
/-- A store of one cell into an owned row. -/
theorem Own.putN {m : World} {S : List Nat} {t : TypeId} {sz : Nat} {v : Value} {n j : Nat} {xs : List Value} (h : Own m S t sz v n xs) (hj : j < n * sz) :
    ∃ g cap cur, v = .slice (some ⟨g, 0, none⟩) n cap ∧ Blk m g t cur ∧ S = [g] ∧ j < cur.length ∧ ∀ m' x, Chg m g (.cells (cur.set j x).toArray t (0, 0)) m' → Own m' S t sz v n (xs.set j x) := by
  have hn : 0 < n := by
    rcases Nat.eq_zero_or_pos n with h0 | h0
    · subst h0; simp at hj
    · exact h0
  obtain ⟨g, cap, cur, rfl, hB, hcap, hcm, hcl, hct, rfl⟩ := h.at_ hn
  have hjc : j < cur.length := by rw [hcl]; exact Nat.lt_of_lt_of_le hj (Nat.mul_le_mul_right _ hcap)
  refine ⟨g, cap, cur, rfl, hB, rfl, hjc, fun m' x hC => ⟨?_, .inr ⟨g, cap, _, rfl, hC.blk, hcap, hcm, by simpa using hcl, ?_, rfl⟩⟩⟩
  · rw [List.length_set]; exact h.1
  · rw [List.take_set, hct]
end Go.Ev
