/- A literal's bytes converted to their own type: the row gets a mark behind its last cell; nothing else moves. No conditions. -/
import Derived.Test.YtkfakfbndnbpiaaSlice
namespace Go.Ev
open Go.RowKit
section
variable {P : Program} {T : Ty} {ops : Array Oper} {Q : Exit → Act → World → Prop} {rest : List Oper} {n : Nat} {e e' : Env} {D : Fr} {m : World}
  {d : Option Tmp} {x : Operand} {t ty : TypeId} {pos : String} {aft : Array Edge} {g : Option (Nat × Bool)}
theorem freeze_heap (w : World) (b k : Nat) {cs : Array Value} {te : TypeId} (h : w.heap[b]? = some (.cells cs te (0, 0))) (j : Nat) :
    (w.freeze ⟨b, k, none⟩ 1).heap[j]? = if j = b then some (.cells cs te (k, k + 1)) else w.heap[j]? := by
  unfold World.freeze
  rw [if_neg (by decide)]
  show (w.heap.modify b _)[j]? = _
  rw [Array.getElem?_modify]
  by_cases hj : b = j
  · subst hj; rw [if_pos rfl, if_pos rfl, h]; rfl
  · rw [if_neg hj, if_neg (fun hh => hj hh.symm)]
theorem Sim.freeze {m w : World} (h : Sim m w) (a : Addr) (k : Nat) : Sim (m.freeze a k) (w.freeze a k) := by
  unfold World.freeze
  split
  · exact h
  · exact ⟨by simp [h.heap], h.os, h.output, h.tape, h.drawn⟩
theorem RL.convSelf (hT : T.Ok P) {b : Nat} {tb te : TypeId} {cs : List Value} {k c sz : Nat} (hB : Blk m b tb cs) (ht : (T.row t).map (·.k) = some (.sli te)) (hte : (T.row te).map (·.k) = some (.int .u8))
    (hlen : cs.length = k * sz) (hkc : k ≤ c) (hc : c ≤ maxLen)
    (hg : gd ops e ⟨d, .convert t t x, ty, pos, aft, g⟩ = some true) (hx : e.ev x = some (.slice (some ⟨b, 0, none⟩) k c)) (hp : putE n d (.slice (some ⟨b, 0, none⟩) k c) e = some e')
    (h : ∀ m', Ext m [b] m' → (∀ M, b ∉ M → Sl m' M sz (.slice (some ⟨b, 0, none⟩) k c) cs) → RL P ops Q rest n e' D m') : RL P ops Q (⟨d, .convert t t x, ty, pos, aft, g⟩ :: rest) n e D m := by
  obtain ⟨r2, hr2, hr2'⟩ := Option.map_eq_some_iff.1 ht
  obtain ⟨r3, hr3, hr3'⟩ := Option.map_eq_some_iff.1 hte
  have h2 := (hT.row hr2).k; rw [hr2'] at h2
  have h3 := (hT.row hr3).k; rw [hr3'] at h3
  have hh := freeze_heap m b cs.length hB
  refine RL.valueW (m' := m.freeze ⟨b, cs.length, none⟩ 1) _ hg (fun a w hf hs => ⟨w.freeze ⟨b, cs.length, none⟩ 1, ?_, hs.freeze _ _⟩) hp (h _ ?_ ?_)
  · have hsh : w.shape? b = some (tb, cs.length) := by
      unfold World.shape?
      rw [hs.heap, hB]; simp
    simp [execOp, convert, hf.ev hx, run_underlying h2, run_underlying h3, markStringish, hsh]
  · refine ⟨?_, ?_, ?_, ?_, fun j hj hn => ?_, by unfold World.freeze; split <;> exact Nat.le_refl _⟩
    · unfold World.freeze; split <;> rfl
    · unfold World.freeze; split <;> rfl
    · unfold World.freeze; split <;> rfl
    · unfold World.freeze; split <;> simp
    · rw [hh, if_neg (by simpa using hn)]
  · refine fun M hM => ⟨_, _, _, rfl, hkc, hc, hlen, (fun hh => by cases hh), fun _ => ⟨_, rfl, hM, fun j u hu => ?_⟩⟩
    rw [add_block]
    have := hh b
    rw [if_pos rfl] at this
    simp [World.cell?, this, hu]
end
end Go.Ev
namespace Go.Ev
open Go.RowKit
/-- A store into an owned row of one-cell elements. -/
theorem Own.put {m : World} {S : List Nat} {t : TypeId} {v : Value} {n j : Nat} {xs : List Value} (h : Own m S t 1 v n xs) (hj : j < n) :
    ∃ g cap cur, v = .slice (some ⟨g, 0, none⟩) n cap ∧ Blk m g t cur ∧ S = [g] ∧ j < cur.length ∧ ∀ m' x, Chg m g (.cells (cur.set j x).toArray t (0, 0)) m' → Own m' S t 1 v n (xs.set j x) := by
  obtain ⟨g, cap, cur, rfl, hB, hcap, hcm, hcl, hct, rfl⟩ := h.at_ (by omega)
  refine ⟨g, cap, cur, rfl, hB, rfl, by omega, fun m' x hC => ⟨?_, .inr ⟨g, cap, _, rfl, hC.blk, hcap, hcm, by simpa using hcl, ?_, rfl⟩⟩⟩
  · rw [List.length_set]; exact h.1
  · rw [List.take_set, hct]
theorem u8s_set (l : List UInt8) (j : Nat) (x : UInt8) : (u8s l).set j (.int .u8 x.toNat) = u8s (l.set j x) := by
  unfold u8s
  rw [List.map_set]
end Go.Ev
