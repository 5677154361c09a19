/- What the sweep does to its rows: a piece joined on, the ended ones taken away. -/
import Derived.Test.YtkfakfbndnbpiaaIdsK
namespace Go.Ev
open Go.RowKit
section
variable {P : Program} {T : Ty} {ops : Array Oper} {Q : Exit → Act → World → Prop} {rest : List Oper} {n : Nat} {e e' : Env} {D : Fr} {m : World}
  {d : Option Tmp} {x : Operand} {t ty : TypeId} {pos : String} {aft : Array Edge} {g : Option (Nat × Bool)} {r : Row}
/-- clear(s), at elements of known size. -/
theorem RL.clear (hT : T.Ok P) {te tb : TypeId} {b off k c : Nat} {cs : List Value} (he : T.elem t = some (te, r)) (hB : Blk m b tb cs) (hg : gd ops e ⟨d, .call ⟨.builtin .clear, #[x], #[t]⟩, ty, pos, aft, g⟩ = some true)
    (hx : e.ev x = some (.slice (some ⟨b, off, none⟩) k c)) (hk : 0 < k) (hlen : off + k * r.size ≤ cs.length) (h1 : ∀ v ∈ (Builtin.zeroCells r.zero.cells k).toList, v.oneCell' = true) (hp : putE n d (.tuple #[]) e = some e')
    (h : ∀ m', Chg m b (.cells (cs.take off ++ (Builtin.zeroCells r.zero.cells k).toList ++ cs.drop (off + k * r.size)).toArray tb (0, 0)) m' → RL P ops Q rest n e' D m') :
    RL P ops Q (⟨d, .call ⟨.builtin .clear, #[x], #[t]⟩, ty, pos, aft, g⟩ :: rest) n e D m := by
  obtain ⟨rt, hrt, hkk, hr, hcz, hsz, _⟩ := Ty.elem_spec he
  have hu := (hT.row hrt).k
  rw [hkk] at hu
  obtain ⟨i, hi, hz0, hz1, _⟩ := (hT.row hr).parts
  have hl := size_zero r.zero.cells k
  rw [hcz] at hl
  refine RL.valueW _ (m.setRow b (cs.take off ++ (Builtin.zeroCells r.zero.cells k).toList ++ cs.drop (off + k * r.size)).toArray) hg (fun a w hf hs => ?_) hp (h _ (setRow_chg hB _))
  have hw : w.heap[b]? = some (.cells cs.toArray tb (0, 0)) := by rw [hs.heap]; exact hB
  have h3 := run_storeCells_at P b off tb (Builtin.zeroCells r.zero.cells k).toList 0 cs.toArray w hw (by rw [List.size_toArray]; omega) h1
  refine ⟨w.setRow b (cs.take off ++ (Builtin.zeroCells r.zero.cells k).toList ++ cs.drop (off + k * r.size)).toArray, ?_, hs.setRow b _⟩
  simp only [Nat.add_zero] at h3
  rw [hl] at h3
  obtain ⟨q, rfl⟩ : ∃ q, k = q + 1 := ⟨k - 1, by omega⟩
  simp [execOp, resolve, invoke, builtin, Builtin.clear_, hf.ev hx, run_underlying hu, zeroValue, typeInfo, hi, hz0]
  simp only [List.append_assoc] at h3
  rw [h3]
  simp
end
theorem Own.cutTo {m : World} {S : List Nat} {t : TypeId} {sz g n cap i : Nat} {xs : List Value} (h : Own m S t sz (.slice (some ⟨g, 0, none⟩) n cap) n xs) (hn : 0 < n) (hi : i ≤ n) : Own m S t sz (.slice (some ⟨g, 0, none⟩) i cap) i (xs.take (i * sz)) := by
  obtain ⟨g', cap', cur, hv, hB, h1, h2, h3, h4, rfl⟩ := h.at_ hn
  injection hv with hv hv2 hv3
  injection hv with hv
  injection hv with hv
  subst hv; subst hv3
  have hle : i * sz ≤ n * sz := Nat.mul_le_mul_right _ hi
  refine ⟨?_, .inr ⟨g, cap, cur, rfl, hB, by omega, h2, h3, ?_, rfl⟩⟩
  · rw [List.length_take, h.1]; omega
  · rw [← h4, List.take_take, Nat.min_eq_left hle]
end Go.Ev
namespace Go.Proofs.Ytkfakfbndnbpiaa
open Go.RowKit Go.Ev Go.Ids

theorem tzero_one (k : Nat) : ∀ v ∈ (Builtin.zeroCells (#[.int .u64 0, .int .u64 0, .int .u64 0, .int .u64 0] : Array Value) k).toList, v.oneCell' = true := by
  intro v hv
  simp only [Builtin.zeroCells, Array.toList_map, List.mem_map] at hv
  obtain ⟨q, _, rfl⟩ := hv
  have h4 : q % (#[.int .u64 0, .int .u64 0, .int .u64 0, .int .u64 0] : Array Value).size < 4 := Nat.mod_lt _ (by simp)
  generalize q % (#[.int .u64 0, .int .u64 0, .int .u64 0, .int .u64 0] : Array Value).size = z at h4
  match z, h4 with
  | 0, _ => rfl
  | 1, _ => rfl
  | 2, _ => rfl
  | 3, _ => rfl
theorem tsC_take (l : List Trn) (k : Nat) : (l.flatMap tC).take (k * 4) = (l.take k).flatMap tC := by
  induction k generalizing l with
  | zero => simp
  | succ k ih =>
    cases l with
    | nil => simp
    | cons x l =>
      rw [List.flatMap_cons, List.take_succ_cons, List.flatMap_cons, ← ih l, Nat.succ_mul, Nat.add_comm]
      exact List.take_length_add_append (l₁ := tC x) (k * 4)
theorem tsC_drop (l : List Trn) (k : Nat) : (l.flatMap tC).drop (k * 4) = (l.drop k).flatMap tC := by
  induction k generalizing l with
  | zero => simp
  | succ k ih =>
    cases l with
    | nil => simp
    | cons x l =>
      rw [List.flatMap_cons, List.drop_succ_cons, ← ih l, Nat.succ_mul, Nat.add_comm, ← List.drop_drop]
      rfl
theorem tsC_put (l : List Trn) (k : Nat) (y : Trn) : (l.flatMap tC).take (k * 4) ++ tC y ++ (l.flatMap tC).drop (k * 4 + 4) = (l.take k ++ [y] ++ l.drop (k + 1)).flatMap tC := by
  rw [tsC_take, show k * 4 + 4 = (k + 1) * 4 by omega, tsC_drop]; simp
theorem tsC_app (a b : List Trn) : a.flatMap tC ++ b.flatMap tC = (a ++ b).flatMap tC := by simp
/-- The first place where p holds, or none. -/
theorem indexT_c (m : World) (v : Value) (l : List Trn) (h : Ts m [] v l) (hl : l.length < 1000000000) (k : FuncId) (ca : List Value) (p : Trn → Bool) (hf : ∀ m1 x, Ext m [] m1 → FnR Try.prog k (tV x :: ca) m1 fun r m2 => r = .bool (p x) ∧ Ext m1 [] m2) :
    FnR Try.prog 108 [v, .func (.func k) #[] ca.toArray] m fun r m' => ((r = .int .i64 (-1) ∧ l.any p = false) ∨ ∃ i : Nat, r = .int .i64 i ∧ i < l.length ∧ (l.take i).any p = false ∧ ∃ h : i < l.length, p l[i] = true) ∧ Ext m [] m' := by
  obtain ⟨A, c, rfl, _, _⟩ := h.shape
  refine FnE.enter ⟨_, Try.func108, by kernel_rfl, by kernel_rfl⟩ Try.func108 rfl rfl ?_
  repeat (first | with_reducible refine WP.seq ?_ | with_reducible refine WP.block ?_ | with_reducible refine WP.region ?_)
  refine RL.auto T_ok rfl ?_
  refine RL.nil ?_; repeat (first | with_reducible refine QN.block_normal ?_ | with_reducible refine QN.next ?_); repeat (first | with_reducible refine WP.seq ?_ | with_reducible refine WP.block ?_ | with_reducible refine WP.region ?_)
  refine RL.auto T_ok rfl ?_
  refine RL.nil ?_; repeat (first | with_reducible refine QN.block_normal ?_ | with_reducible refine QN.next ?_); repeat (first | with_reducible refine WP.seq ?_ | with_reducible refine WP.block ?_ | with_reducible refine WP.region ?_)
  refine WP.loop (X := Nat) (fun i => [(0, .slice A l.length c), (1, .func (.func k) #[] ca.toArray), (7, .int .i64 l.length), (8, .int .i64 i)]) (fun i m' => i ≤ l.length ∧ (l.take i).any p = false ∧ Ext m [] m') (fun i => l.length - i) 0
    (Sub.cons rfl (Sub.cons rfl (Sub.cons rfl (Sub.cons rfl Sub.nil)))) ⟨by simp, by simp, Ext.refl _ _⟩ ?_
  rintro i m1 ⟨hi, ht, hE⟩
  repeat (first | with_reducible refine WP.seq ?_ | with_reducible refine WP.block ?_ | with_reducible refine WP.region ?_)
  refine RL.auto T_ok rfl ?_
  refine RL.nil ?_; repeat (first | with_reducible refine QN.block_normal ?_ | with_reducible refine QN.next ?_); repeat (first | with_reducible refine WP.seq ?_ | with_reducible refine WP.block ?_ | with_reducible refine WP.region ?_)
  refine WP.cond rfl (fun hc => ?_) (fun hc => ?_)
  · have hc : i < l.length := by have := of_decide_eq_true hc; omega
    obtain ⟨ad, rfl, hx⟩ := (h.ext0 hE).cell i hc
    refine WP.skip ?_; repeat (first | with_reducible refine QN.block_normal ?_ | with_reducible refine QN.next ?_); repeat (first | with_reducible refine WP.seq ?_ | with_reducible refine WP.block ?_ | with_reducible refine WP.region ?_)
    refine RL.auto T_ok rfl ?_
    refine RL.nil ?_; repeat (first | with_reducible refine QN.block_normal ?_ | with_reducible refine QN.next ?_); repeat (first | with_reducible refine WP.seq ?_ | with_reducible refine WP.block ?_ | with_reducible refine WP.region ?_)
    refine RL.auto T_ok rfl ?_
    refine RL.indexAddr (k := i) T_ok rfl rfl rfl rfl rfl rfl rfl hc rfl ?_
    refine RL.loadAgg T_ok (tC l[i]) rfl rfl rfl hx rfl ?_
    refine RL.call (fi := []) (ca := ca) rfl rfl rfl rfl (hf m1 l[i] hE) ?_
    rintro _ m2 ⟨rfl, hE2⟩
    refine ⟨_, rfl, ?_⟩
    have hEm := hE.trans hE2 (by simp)
    refine RL.nil ?_; repeat (first | with_reducible refine QN.block_normal ?_ | with_reducible refine QN.next ?_); repeat (first | with_reducible refine WP.seq ?_ | with_reducible refine WP.block ?_ | with_reducible refine WP.region ?_)
    refine WP.cond rfl (fun hp => ?_) (fun hp => ?_)
    · repeat (first | with_reducible refine WP.seq ?_ | with_reducible refine WP.block ?_ | with_reducible refine WP.region ?_)
      refine RL.auto T_ok rfl ?_
      refine RL.nil ?_; repeat (first | with_reducible refine QN.block_normal ?_ | with_reducible refine QN.next ?_); repeat (first | with_reducible refine WP.seq ?_ | with_reducible refine WP.block ?_ | with_reducible refine WP.region ?_)
      refine WP.ret ?_; repeat (first | with_reducible refine QN.then_ret ?_ | with_reducible refine QN.block_ret ?_)
      exact QN.ret1 rfl rfl ⟨_, rfl, .inr ⟨i, rfl, hc, ht, hc, hp⟩, hEm⟩
    · refine WP.skip ?_; repeat (first | with_reducible refine QN.block_normal ?_ | with_reducible refine QN.next ?_); repeat (first | with_reducible refine WP.seq ?_ | with_reducible refine WP.block ?_ | with_reducible refine WP.region ?_)
      refine RL.auto T_ok rfl ?_
      refine RL.nil (QN.round (i + 1) (Sub.cons rfl (Sub.cons rfl (Sub.cons rfl (Sub.cons ?_ Sub.nil)))) ⟨by omega, ?_, hEm⟩ (by omega))
      · show some (Value.int .i64 (IntKind.i64.wrap ((i : Int) + 1))) = some (Value.int .i64 ((i + 1 : Nat) : Int))
        rw [wrap_i64_in _ (by omega) (by omega)]; rfl
      · rw [List.take_succ_eq_append_getElem hc, List.any_append, ht]
        simp [hp]
  · have hc : i = l.length := by have := of_decide_eq_false hc; omega
    subst hc
    rw [List.take_length] at ht
    refine WP.exit ?_; repeat (first | with_reducible refine QN.then_exit ?_ | with_reducible refine QN.block_exit ?_ | with_reducible refine QN.block_far rfl ?_ | with_reducible refine QN.block_normal ?_ | with_reducible refine QN.next ?_); repeat (first | with_reducible refine WP.seq ?_ | with_reducible refine WP.block ?_ | with_reducible refine WP.region ?_)
    refine RL.auto T_ok rfl ?_
    refine RL.nil ?_; repeat (first | with_reducible refine QN.block_normal ?_ | with_reducible refine QN.next ?_); repeat (first | with_reducible refine WP.seq ?_ | with_reducible refine WP.block ?_ | with_reducible refine WP.region ?_)
    refine WP.ret ?_; repeat (first | with_reducible refine QN.then_ret ?_ | with_reducible refine QN.block_ret ?_)
    exact QN.ret1 rfl rfl ⟨_, rfl, .inl ⟨rfl, ht⟩, hE⟩
theorem filter_none {p : Trn → Bool} {l : List Trn} (h : l.any p = false) : l.filter (fun x => !p x) = l := by
  rw [List.filter_eq_self]
  intro x hx
  have := List.any_eq_false.1 h x hx
  simp [this]
/-- DeleteFunc of a row of one's own. -/
theorem deleteT_c (m : World) (S : List Nat) (v : Value) (l : List Trn) (h : Ev.Own m S 101 4 v l.length (l.flatMap tC)) (hl : l.length < 1000000000) (k : FuncId) (ca : List Value) (p : Trn → Bool) (K : World → Prop) (hK0 : K m) (hK : ∀ a b, K a → Ext a S b → K b)
    (hf : ∀ m1 x, K m1 → FnR Try.prog k (tV x :: ca) m1 fun r m2 => r = .bool (p x) ∧ Ext m1 [] m2) :
    FnR Try.prog 86 [v, .func (.func k) #[] ca.toArray] m fun r m' => Ev.Own m' S 101 4 r (l.filter fun x => !p x).length ((l.filter fun x => !p x).flatMap tC) ∧ Ext m S m' := by
  have hT : Ts m [] v l := h.sl (by simp)
  refine FnE.enter ⟨_, Try.func86, by kernel_rfl, by kernel_rfl⟩ Try.func86 rfl rfl ?_
  repeat (first | with_reducible refine WP.seq ?_ | with_reducible refine WP.block ?_ | with_reducible refine WP.region ?_)
  refine RL.auto T_ok rfl ?_
  refine RL.nil ?_; repeat (first | with_reducible refine QN.block_normal ?_ | with_reducible refine QN.next ?_); repeat (first | with_reducible refine WP.seq ?_ | with_reducible refine WP.block ?_ | with_reducible refine WP.region ?_)
  refine RL.auto T_ok rfl ?_
  refine RL.call (fi := []) (ca := []) rfl rfl rfl rfl (indexT_c m v l hT hl k ca p (fun m1 x hE => hf m1 x (hK m m1 hK0 (hE.mono (by simp))))) ?_
  rintro _ m1 ⟨⟨rfl, hn⟩ | ⟨i0, rfl, hi0, hpre, hi1, hp0⟩, hE1⟩
  · refine ⟨_, rfl, ?_⟩
    refine RL.auto T_ok rfl ?_
    refine RL.nil ?_; repeat (first | with_reducible refine QN.block_normal ?_ | with_reducible refine QN.next ?_); repeat (first | with_reducible refine WP.seq ?_ | with_reducible refine WP.block ?_ | with_reducible refine WP.region ?_)
    refine RL.auto T_ok rfl ?_
    refine RL.nil ?_; repeat (first | with_reducible refine QN.block_normal ?_ | with_reducible refine QN.next ?_); repeat (first | with_reducible refine WP.seq ?_ | with_reducible refine WP.block ?_ | with_reducible refine WP.region ?_)
    refine WP.condT rfl ?_
    repeat (first | with_reducible refine WP.seq ?_ | with_reducible refine WP.block ?_ | with_reducible refine WP.region ?_)
    refine RL.auto T_ok rfl ?_
    refine RL.nil ?_; repeat (first | with_reducible refine QN.block_normal ?_ | with_reducible refine QN.next ?_); repeat (first | with_reducible refine WP.seq ?_ | with_reducible refine WP.block ?_ | with_reducible refine WP.region ?_)
    refine WP.ret ?_; repeat (first | with_reducible refine QN.then_ret ?_ | with_reducible refine QN.block_ret ?_)
    refine QN.ret1 rfl rfl ⟨_, rfl, ?_, hE1.mono (by simp)⟩
    rw [filter_none hn]
    exact h.ext hE1 (by simp)
  · refine ⟨_, rfl, ?_⟩
    have hO1 := h.ext hE1 (by simp)
    have hK1 := hK m m1 hK0 (hE1.mono (by simp))
    obtain ⟨g, cap, cur, rfl, _, _, _, _, _, rfl⟩ := h.at_ (by omega)
    refine RL.auto T_ok rfl ?_
    refine RL.nil ?_; repeat (first | with_reducible refine QN.block_normal ?_ | with_reducible refine QN.next ?_); repeat (first | with_reducible refine WP.seq ?_ | with_reducible refine WP.block ?_ | with_reducible refine WP.region ?_)
    refine RL.pure T_ok 2 rfl ?_
    refine RL.eqv (v' := .bool false) (congrArg _ (beq_eq_false_iff_ne.2 (by omega))) ?_
    refine RL.nil ?_; repeat (first | with_reducible refine QN.block_normal ?_ | with_reducible refine QN.next ?_); repeat (first | with_reducible refine WP.seq ?_ | with_reducible refine WP.block ?_ | with_reducible refine WP.region ?_)
    refine WP.condF rfl ?_
    refine WP.skip ?_; repeat (first | with_reducible refine QN.block_normal ?_ | with_reducible refine QN.next ?_); repeat (first | with_reducible refine WP.seq ?_ | with_reducible refine WP.block ?_ | with_reducible refine WP.region ?_)
    refine RL.pure T_ok 2 rfl ?_
    refine RL.eqv (v' := .int .i64 ((i0 + 1 : Nat) : Int)) (congrArg _ (by rw [wrap_i64_in _ (by omega) (by omega)]; rfl)) ?_
    refine RL.auto T_ok rfl ?_
    refine RL.nil ?_; repeat (first | with_reducible refine QN.block_normal ?_ | with_reducible refine QN.next ?_); repeat (first | with_reducible refine WP.seq ?_ | with_reducible refine WP.block ?_ | with_reducible refine WP.region ?_)
    have hF0 : (l.take (i0 + 1)).filter (fun x => !p x) = l.take i0 := by
      rw [List.take_succ_eq_append_getElem hi0, List.filter_append, filter_none hpre]
      simp [hp0]
    refine (WP.loop (X := Nat × List Trn) (fun q => [(0, .slice (some ⟨g, 0, none⟩) l.length cap), (1, .func (.func k) #[] ca.toArray), (5, .int .i64 ((l.take q.1).filter fun x => !p x).length), (6, .int .i64 q.1)])
      (fun q m' => q.1 ≤ l.length ∧ ((l.take q.1).filter fun x => !p x).length < q.1 ∧ q.2.length = l.length ∧ q.2.take ((l.take q.1).filter fun x => !p x).length = ((l.take q.1).filter fun x => !p x) ∧ q.2.drop q.1 = l.drop q.1 ∧
        Ev.Own m' [g] 101 4 (.slice (some ⟨g, 0, none⟩) l.length cap) l.length (q.2.flatMap tC) ∧ Ext m [g] m' ∧ K m') (fun q => l.length - q.1) (i0 + 1, l)
      (Sub.cons rfl (Sub.cons rfl (Sub.cons ?_ (Sub.cons rfl Sub.nil)))) ⟨hi0, by rw [hF0, List.length_take]; omega, rfl, by rw [hF0, List.length_take, Nat.min_eq_left (by omega)], rfl, hO1, hE1.mono (by simp), hK1⟩ ?_)
    · show some (Value.int .i64 (i0 : Int)) = some (Value.int .i64 ((((l.take (i0 + 1)).filter fun x => !p x).length : Nat) : Int))
      rw [hF0, List.length_take, Nat.min_eq_left (by omega)]
    rintro ⟨j, L⟩ m2 ⟨hj, hlt, hLl, hLt, hLd, hO2, hE2, hK2⟩
    simp only at hj hlt hLl hLt hLd hO2 hK2
    repeat (first | with_reducible refine WP.seq ?_ | with_reducible refine WP.block ?_ | with_reducible refine WP.region ?_)
    refine RL.auto T_ok rfl ?_
    refine RL.nil ?_; repeat (first | with_reducible refine QN.block_normal ?_ | with_reducible refine QN.next ?_); repeat (first | with_reducible refine WP.seq ?_ | with_reducible refine WP.block ?_ | with_reducible refine WP.region ?_)
    refine WP.cond rfl (fun hc => ?_) (fun hc => ?_)
    · replace hc : j < l.length := by have := of_decide_eq_true hc; simp only at this; omega
      have hR2 : Ts m2 [] (.slice (some ⟨g, 0, none⟩) L.length cap) L := by rw [hLl]; exact hO2.sl (by simp)
      obtain ⟨ad, had, hx⟩ := hR2.cell j (by omega)
      injection had with had
      subst had
      have hLj : L[j]'(by omega) = l[j] := by
        have h1 : (L.drop j)[0]? = (l.drop j)[0]? := by rw [hLd]
        rw [List.getElem?_drop, List.getElem?_drop, Nat.add_zero, List.getElem?_eq_getElem (by omega), List.getElem?_eq_getElem hc] at h1
        exact Option.some.inj h1
      rw [hLj] at hx
      have hstep : (l.take (j + 1)).filter (fun x => !p x) = (l.take j).filter (fun x => !p x) ++ (if p l[j] then [] else [l[j]]) := by
        rw [List.take_succ_eq_append_getElem hc, List.filter_append]
        cases h : p l[j] <;> simp [h]
      have hLd' : L.drop (j + 1) = l.drop (j + 1) := by
        have h1 := congrArg (List.drop 1) hLd
        rwa [List.drop_drop, List.drop_drop] at h1
      generalize (l.take j).filter (fun x => !p x) = F at hlt hLt hstep
      obtain ⟨x, hxe⟩ : ∃ x, l[j] = x := ⟨_, rfl⟩
      rw [hxe] at hx hstep
      refine WP.skip ?_; repeat (first | with_reducible refine QN.block_normal ?_ | with_reducible refine QN.next ?_); repeat (first | with_reducible refine WP.seq ?_ | with_reducible refine WP.block ?_ | with_reducible refine WP.region ?_)
      refine RL.auto T_ok rfl ?_
      refine RL.indexAddr (k := j) T_ok rfl rfl rfl rfl rfl rfl rfl hc rfl ?_
      refine RL.loadAgg T_ok (tC x) rfl rfl rfl hx rfl ?_
      refine RL.alloc T_ok rfl rfl (fun b7 m3 hb7 hC3 => ⟨_, rfl, ?_⟩)
      refine RL.storeAgg T_ok (b := b7) (i := 0) (vs := tC x) (cs := [.int .u64 0, .int .u64 0, .int .u64 0, .int .u64 0]) hC3.blk rfl rfl rfl rfl rfl (by simp) (by simp [tC, Value.oneCell']) rfl ?_
      intro m4 hC4
      have hE4 : Ext m2 [] m4 := (hC3.new (by omega)).trans hC4.ext (fun q hq => .inr (by have h9 : q = b7 := (by simpa using hq); omega))
      have hB4 : Blk m4 b7 101 (tC x) := hC4.blk
      have hO4 := hO2.ext hE4 (by simp)
      have hK4 := hK _ _ hK2 (hE4.mono (by simp))
      have l4 := hO2.lt g (by simp)
      refine RL.nil ?_; repeat (first | with_reducible refine QN.block_normal ?_ | with_reducible refine QN.next ?_); repeat (first | with_reducible refine WP.seq ?_ | with_reducible refine WP.block ?_ | with_reducible refine WP.region ?_)
      refine RL.auto T_ok rfl ?_
      refine RL.loadAgg T_ok (tC x) rfl rfl rfl (fun j u hu => by rw [add_block]; exact hB4.cell _ (by simpa using hu)) rfl ?_
      refine RL.call (fi := []) (ca := ca) rfl rfl rfl rfl (hf m4 x hK4) ?_
      rintro _ m5 ⟨rfl, hE5⟩
      refine ⟨_, rfl, ?_⟩
      have hB5 := hB4.ext hE5 (by simp)
      have hO5 := hO4.ext hE5 (by simp)
      have hK5 := hK _ _ hK4 (hE5.mono (by simp))
      have hE25 : Ext m2 [] m5 := hE4.trans hE5 (by simp)
      refine RL.auto T_ok rfl ?_
      refine RL.nil ?_; repeat (first | with_reducible refine QN.block_normal ?_ | with_reducible refine QN.next ?_); repeat (first | with_reducible refine WP.seq ?_ | with_reducible refine WP.block ?_ | with_reducible refine WP.region ?_)
      refine WP.cond rfl (fun hpx => ?_) (fun hpx => ?_)
      · have hpx : p x = false := by simpa using hpx
        rw [hpx, if_neg (by simp)] at hstep
        obtain ⟨g', cap', cur, hv5, hB5g, hgg, hj5, hset⟩ := hO5.putK (j := F.length * 4) (k := 4) (by omega) (by omega)
        injection hv5 with hv5 hv5'
        injection hv5 with hv5
        injection hv5 with hv5
        subst hv5
        repeat (first | with_reducible refine WP.seq ?_ | with_reducible refine WP.block ?_ | with_reducible refine WP.region ?_)
        refine RL.auto T_ok rfl ?_
        refine RL.loadAgg T_ok (tC x) rfl rfl rfl (fun j u hu => by rw [add_block]; exact hB5.cell _ (by simpa using hu)) rfl ?_
        refine RL.indexAddr (k := F.length) T_ok rfl rfl rfl rfl rfl rfl rfl (by omega) rfl ?_
        refine RL.eqv (v' := .pointer (some ⟨g, F.length * 4, none⟩)) (congrArg (fun q => Value.pointer (some q)) (by rw [add_block]; show (⟨g, 0 + F.length * 4, none⟩ : Addr) = _; rw [Nat.zero_add])) ?_
        refine RL.storeAgg T_ok (b := g) (i := F.length * 4) (vs := tC x) hB5g rfl rfl rfl rfl rfl hj5 (tC_one _) rfl ?_
        intro m6 hC6
        have hO6 := hset m6 (tC x) rfl hC6
        rw [tsC_put] at hO6
        have hE6 : Ext m [g] m6 := (hE2.trans (hE25.mono (by simp)) (fun k hk => .inl hk)).trans hC6.ext (fun k hk => .inl hk)
        have hK6 := hK _ _ hK5 hC6.ext
        have hLL : (L.take F.length ++ [x] ++ L.drop (F.length + 1)).length = l.length := by simp; omega
        refine RL.nil ?_; repeat (first | with_reducible refine QN.block_normal ?_ | with_reducible refine QN.next ?_); repeat (first | with_reducible refine WP.seq ?_ | with_reducible refine WP.block ?_ | with_reducible refine WP.region ?_)
        refine RL.pure T_ok 2 rfl ?_
        refine RL.eqv (v' := .int .i64 ((F.length + 1 : Nat) : Int)) (congrArg _ (by rw [wrap_i64_in _ (by omega) (by omega)]; rfl)) ?_
        refine RL.auto T_ok rfl ?_
        refine RL.nil ?_; repeat (first | with_reducible refine QN.block_normal ?_ | with_reducible refine QN.next ?_); repeat (first | with_reducible refine WP.seq ?_ | with_reducible refine WP.block ?_ | with_reducible refine WP.region ?_)
        refine RL.pure T_ok 2 rfl ?_
        refine RL.eqv (v' := .int .i64 ((j + 1 : Nat) : Int)) (congrArg _ (by rw [wrap_i64_in _ (by omega) (by omega)]; rfl)) ?_
        refine RL.auto T_ok rfl ?_
        have hFl : ((l.take (j + 1)).filter fun x => !p x).length = F.length + 1 := by rw [hstep]; simp
        refine RL.nil (QN.round (j + 1, L.take F.length ++ [x] ++ L.drop (F.length + 1)) (Sub.cons rfl (Sub.cons rfl (Sub.cons ?_ (Sub.cons rfl Sub.nil)))) ⟨by show j + 1 ≤ _; omega, ?_, hLL, ?_, ?_, hO6, hE6, hK6⟩ (by show _ - (j + 1) < _ - j; omega))
        · show some (Value.int .i64 ((F.length + 1 : Nat) : Int)) = some (Value.int .i64 ((((l.take (j + 1)).filter fun x => !p x).length : Nat) : Int))
          rw [hFl]
        · show ((l.take (j + 1)).filter fun x => !p x).length < j + 1
          rw [hFl]; omega
        · show (L.take F.length ++ [x] ++ L.drop (F.length + 1)).take ((l.take (j + 1)).filter fun x => !p x).length = (l.take (j + 1)).filter fun x => !p x
          rw [hFl, hstep, hLt]
          have e1 : (F ++ [x]).length = F.length + 1 := by simp
          rw [← e1, List.take_left]
        · show (L.take F.length ++ [x] ++ L.drop (F.length + 1)).drop (j + 1) = l.drop (j + 1)
          have e1 : (L.take F.length ++ [x]).length = F.length + 1 := by simp; omega
          rw [List.drop_append, e1, List.drop_eq_nil_of_le (by rw [e1]; omega), List.nil_append, List.drop_drop, ← hLd']
          congr 1; omega
      · have hpx : p x = true := by simpa using hpx
        rw [hpx, if_pos rfl, List.append_nil] at hstep
        refine WP.skip ?_; repeat (first | with_reducible refine QN.block_normal ?_ | with_reducible refine QN.next ?_); repeat (first | with_reducible refine WP.seq ?_ | with_reducible refine WP.block ?_ | with_reducible refine WP.region ?_)
        refine RL.pure T_ok 2 rfl ?_
        refine RL.eqv (v' := .int .i64 ((j + 1 : Nat) : Int)) (congrArg _ (by rw [wrap_i64_in _ (by omega) (by omega)]; rfl)) ?_
        refine RL.auto T_ok rfl ?_
        refine RL.nil (QN.round (j + 1, L) (Sub.cons rfl (Sub.cons rfl (Sub.cons ?_ (Sub.cons rfl Sub.nil)))) ⟨by show j + 1 ≤ _; omega, ?_, hLl, ?_, hLd', hO5, hE2.trans (hE25.mono (by simp)) (fun k hk => .inl hk), hK5⟩ (by show _ - (j + 1) < _ - j; omega))
        · show some (Value.int .i64 ((F.length : Nat) : Int)) = some (Value.int .i64 ((((l.take (j + 1)).filter fun x => !p x).length : Nat) : Int))
          rw [hstep]
        · show ((l.take (j + 1)).filter fun x => !p x).length < j + 1
          rw [hstep]; omega
        · show L.take ((l.take (j + 1)).filter fun x => !p x).length = (l.take (j + 1)).filter fun x => !p x
          rw [hstep]; exact hLt
    · replace hc : j = l.length := by have := of_decide_eq_false hc; simp only at this; omega
      subst hc
      rw [List.take_length] at hlt hLt
      have e0 : (l.take l.length).filter (fun x => !p x) = l.filter (fun x => !p x) := by rw [List.take_length]
      have elen : (((l.take l.length).filter fun x => !p x).length : Nat) = (l.filter fun x => !p x).length := by rw [e0]
      generalize l.filter (fun x => !p x) = F at hlt hLt e0 elen ⊢
      refine WP.exit ?_; repeat (first | with_reducible refine QN.then_exit ?_ | with_reducible refine QN.block_exit ?_ | with_reducible refine QN.block_far rfl ?_ | with_reducible refine QN.block_normal ?_ | with_reducible refine QN.next ?_); repeat (first | with_reducible refine WP.seq ?_ | with_reducible refine WP.block ?_ | with_reducible refine WP.region ?_)
      refine RL.sub (e' := [(0, .slice (some ⟨g, 0, none⟩) l.length cap), (5, .int .i64 (F.length : Nat))]) (Sub.cons rfl (Sub.cons ?_ Sub.nil)) ?_
      · show some (Value.int .i64 ((((l.take l.length).filter fun x => !p x).length : Nat) : Int)) = _
        rw [elen]
      have hcapl : l.length ≤ cap := by
        obtain ⟨g', cap', cur, hv, _, h9, _⟩ := hO2.at_ (by omega)
        injection hv with _ _ hv
      obtain ⟨g', cap', cur, hv5, hB5g, hgg, hj5, hset⟩ := hO2.putK (j := F.length * 4) (k := (l.length - F.length) * 4) (by omega) (by omega)
      injection hv5 with hv5 hv5'
      injection hv5 with hv5
      injection hv5 with hv5
      subst hv5
      refine RL.auto T_ok rfl ?_
      refine RL.sliceFrom T_ok (l := F.length) rfl rfl rfl rfl rfl (by omega) rfl ?_
      refine RL.eqv (v' := .slice (some ⟨g, F.length * 4, none⟩) (l.length - F.length) (cap - F.length)) (by
        rw [if_neg (by omega)]
        show Value.slice (some ((⟨g, 0, none⟩ : Addr).add (F.length * 4))) _ _ = _
        rw [add_block, Nat.zero_add]) ?_
      refine RL.clear T_ok (b := g) (off := F.length * 4) (k := l.length - F.length) (cs := cur) rfl hB5g rfl rfl (by omega) hj5 (tzero_one _) rfl ?_
      intro m6 hC6
      have hO6 := hset m6 _ (by rw [size_zero]; rfl) hC6
      have hO7 := hO6.cutTo (i := F.length) (by omega) (by omega)
      have hE6 : Ext m [g] m6 := hE2.trans hC6.ext (fun k hk => .inl hk)
      rw [List.append_assoc, List.take_append_of_le_length (by rw [List.length_take, tsC_len, hLl]; omega), List.take_take, Nat.min_self, tsC_take, hLt] at hO7
      refine RL.nil ?_; repeat (first | with_reducible refine QN.block_normal ?_ | with_reducible refine QN.next ?_); repeat (first | with_reducible refine WP.seq ?_ | with_reducible refine WP.block ?_ | with_reducible refine WP.region ?_)
      refine RL.auto T_ok rfl ?_
      refine RL.sliceTo (l := F.length) T_ok rfl rfl rfl rfl rfl (by omega) rfl ?_
      refine RL.auto T_ok rfl ?_
      refine RL.nil ?_; repeat (first | with_reducible refine QN.block_normal ?_ | with_reducible refine QN.next ?_); repeat (first | with_reducible refine WP.seq ?_ | with_reducible refine WP.block ?_ | with_reducible refine WP.region ?_)
      refine WP.ret ?_; repeat (first | with_reducible refine QN.then_ret ?_ | with_reducible refine QN.block_ret ?_)
      exact QN.ret1 rfl rfl ⟨_, rfl, hO7, hE6⟩
theorem del1_c (m : World) (x : Trn) (b7 : Nat) (a : Nat) (hB7 : Blk m b7 37 [.int .u64 a]) : FnR Try.prog 87 [tV x, .pointer (some ⟨b7, 0, none⟩)] m fun r m' => r = .bool (decide (x.t ≤ a)) ∧ Ext m [] m' := by
  refine FnE.enter ⟨_, Try.func87, by kernel_rfl, by kernel_rfl⟩ Try.func87 rfl rfl ?_
  repeat (first | with_reducible refine WP.seq ?_ | with_reducible refine WP.block ?_ | with_reducible refine WP.region ?_)
  refine RL.box rfl rfl (fun b m1 hb hC => ⟨_, rfl, ?_⟩)
  have hB : Blk m1 b 101 (tC x) := hC.here
  have hE : Ext m [] m1 := hC.new (by omega)
  have hD := hB7.ext hE (by simp)
  clear hC
  refine RL.auto T_ok rfl ?_
  refine RL.nil ?_; repeat (first | with_reducible refine QN.block_normal ?_ | with_reducible refine QN.next ?_); repeat (first | with_reducible refine WP.seq ?_ | with_reducible refine WP.block ?_ | with_reducible refine WP.region ?_)
  repeat (first | refine RL.pure T_ok 1 rfl ?_ | refine RL.load T_ok rfl rfl rfl (hB.cell _ rfl) rfl ?_ | refine RL.load T_ok rfl rfl rfl (hD.cell _ rfl) rfl ?_)
  refine RL.nil ?_; repeat (first | with_reducible refine QN.block_normal ?_ | with_reducible refine QN.next ?_); repeat (first | with_reducible refine WP.seq ?_ | with_reducible refine WP.block ?_ | with_reducible refine WP.region ?_)
  refine WP.ret ?_; repeat (first | with_reducible refine QN.then_ret ?_ | with_reducible refine QN.block_ret ?_)
  exact QN.ret1 rfl rfl ⟨_, rfl, congrArg _ (dle' _ _), hE⟩
theorem tsC_setT (a : List Trn) (y : Trn) (z : Nat) : ((a ++ [y]).flatMap tC).set (a.length * 4 + 2) (.int .u64 z) = (a ++ [{ y with t := z }]).flatMap tC := by
  rw [List.flatMap_append, List.flatMap_append, List.set_append_right _ _ (by rw [tsC_len]; omega), tsC_len]
  have : a.length * 4 + 2 - a.length * 4 = 2 := by omega
  rw [this]
  rfl
/-- A piece joined on. -/
theorem joined_c (m : World) (S : List Nat) (v : Value) (r : List Trn) (x : Trn) (h : Ev.Own m S 101 4 v r.length (r.reverse.flatMap tC)) (hl : r.length < 1000000000) :
    FnR Try.prog 85 [v, tV x] m fun u m' => ∃ S', Ev.Own m' S' 101 4 u (tj r x).length ((tj r x).reverse.flatMap tC) ∧ Ext m S m' ∧ FpNew m S S' := by
  obtain ⟨A5, c5, rfl, hc5⟩ := h.shape
  refine FnE.enter ⟨_, Try.func85, by kernel_rfl, by kernel_rfl⟩ Try.func85 rfl rfl ?_
  repeat (first | with_reducible refine WP.seq ?_ | with_reducible refine WP.block ?_ | with_reducible refine WP.region ?_)
  refine RL.box rfl rfl (fun b7 m7 hb7 hC => ⟨_, rfl, ?_⟩)
  have hB7 : Blk m7 b7 101 (tC x) := hC.here
  have hE7 : Ext m [] m7 := hC.new (by omega)
  have hO7 := h.ext hE7 (by simp)
  have h7S : b7 ∉ S := fun hh => by have := h.lt _ hh; omega
  clear hC
  refine RL.auto T_ok rfl ?_
  refine RL.nil ?_; repeat (first | with_reducible refine QN.block_normal ?_ | with_reducible refine QN.next ?_)
  refine WP.cut (X := Unit) (fun _ => [(0, .slice A5 r.length c5), (3, .pointer (some ⟨b7, 0, none⟩))]) (fun _ m' => m' = m7 ∧ tj r x = x :: r) ?_ ?_
  · repeat (first | with_reducible refine WP.seq ?_ | with_reducible refine WP.block ?_ | with_reducible refine WP.region ?_)
    rcases r with _ | ⟨y, r'⟩
    · refine RL.pure T_ok 3 rfl ?_
      refine RL.eqv (v' := .int .i64 (-1)) rfl ?_
      refine RL.auto T_ok rfl ?_
      refine RL.nil ?_; repeat (first | with_reducible refine QN.block_normal ?_ | with_reducible refine QN.next ?_)
      repeat (first | with_reducible refine WP.seq ?_ | with_reducible refine WP.block ?_ | with_reducible refine WP.region ?_)
      refine WP.drawQ (fun m' => m' = m7) [] (by kernel_rfl) rfl (by repeat (first | with_reducible exact PanicOk.body | with_reducible refine PanicOk.then_ ?_ | with_reducible refine PanicOk.block_ ?_)) (fun hQ => ?_)
      refine RH.pure T_ok hQ [0, 1, 2, 3, 4, 5, 6, 7, 8, 9, 10, 11, 12, 13, 14, 15, 16, 17, 18, 19, 20, 21, 22, 23, 24, 25, 26, 27, 28, 29, 30, 31] (by kernel_rfl) rfl ?_
      refine RH.done (by kernel_rfl) (fun _ => ?_)
      repeat (first | with_reducible refine QN.block_normal ?_ | with_reducible refine QN.next ?_)
      refine WP.condF rfl ?_
      refine WP.skip ?_
      exact QN.cutEnd () (Sub.cons rfl (Sub.cons rfl Sub.nil)) ⟨rfl, rfl⟩
    · have hrl : (y :: r').length = r'.length + 1 := rfl
      refine RL.pure T_ok 3 rfl ?_
      refine RL.eqv (v' := .int .i64 r'.length) (congrArg _ (by show IntKind.i64.wrap (((r'.length + 1 : Nat) : Int) - 1) = r'.length; rw [wrap_i64_in _ (by omega) (by omega)]; omega)) ?_
      refine RL.auto T_ok rfl ?_
      refine RL.nil ?_; repeat (first | with_reducible refine QN.block_normal ?_ | with_reducible refine QN.next ?_)
      repeat (first | with_reducible refine WP.seq ?_ | with_reducible refine WP.block ?_ | with_reducible refine WP.region ?_)
      have hR7 : Ts m7 [] (.slice A5 (y :: r').length c5) (r'.reverse ++ [y]) := by
        have := hO7.sl (M := []) (by simp)
        rw [List.reverse_cons] at this; exact this
      obtain ⟨ad5, rfl, hy⟩ := hR7.cell r'.length (by simp)
      have hyy : (r'.reverse ++ [y])[r'.length]'(by simp) = y := by simp
      rw [hyy] at hy
      refine WP.drawQ (fun m' => m' = m7) [] (by kernel_rfl) rfl (by repeat (first | with_reducible exact PanicOk.body | with_reducible refine PanicOk.then_ ?_ | with_reducible refine PanicOk.block_ ?_)) (fun hQ => ?_)
      refine RH.pure T_ok hQ [0, 1] (by kernel_rfl) rfl ?_
      refine RH.eqv (v' := .bool true) (congrArg _ (decide_eq_true (by omega))) ?_
      refine RH.pure T_ok hQ [2, 3, 4] (by kernel_rfl) rfl ?_
      refine RH.indexAddr T_ok hQ 5 (k := r'.length) rfl (by kernel_rfl) rfl rfl rfl rfl rfl rfl rfl (by omega) rfl ?_
      refine RH.pure T_ok hQ [6] (by kernel_rfl) rfl ?_
      refine RH.load T_ok hQ 7 (fun m' hm' => by rw [hm']; exact hy 0 _ rfl) rfl (by kernel_rfl) rfl rfl rfl rfl ?_
      refine RH.pure T_ok hQ [8] (by kernel_rfl) rfl ?_
      refine RH.load T_ok hQ 9 (fun m' hm' => by rw [hm']; exact hB7.cell 0 rfl) rfl (by kernel_rfl) rfl rfl rfl rfl ?_
      refine RH.pure T_ok hQ [10] (by kernel_rfl) rfl ?_
      by_cases h1 : y.c = x.c
      · refine RH.eqv (v' := .bool true) (congrArg _ (by rw [deq]; exact decide_eq_true h1)) ?_
        refine RH.pure T_ok hQ [11, 12, 13, 14] (by kernel_rfl) rfl ?_
        refine RH.indexAddr T_ok hQ 15 (k := r'.length) rfl (by kernel_rfl) rfl rfl rfl rfl rfl rfl rfl (by omega) rfl ?_
        refine RH.pure T_ok hQ [16] (by kernel_rfl) rfl ?_
        refine RH.load T_ok hQ 17 (fun m' hm' => by rw [hm']; exact hy 2 _ rfl) rfl (by kernel_rfl) rfl rfl rfl rfl ?_
        refine RH.pure T_ok hQ [18] (by kernel_rfl) rfl ?_
        refine RH.load T_ok hQ 19 (fun m' hm' => by rw [hm']; exact hB7.cell 1 rfl) rfl (by kernel_rfl) rfl rfl rfl rfl ?_
        refine RH.pure T_ok hQ [20] (by kernel_rfl) rfl ?_
        by_cases h2 : y.t = x.f
        · refine RH.eqv (v' := .bool true) (congrArg _ (by rw [deq]; exact decide_eq_true h2)) ?_
          refine RH.pure T_ok hQ [21, 22, 23, 24] (by kernel_rfl) rfl ?_
          refine RH.indexAddr T_ok hQ 25 (k := r'.length) rfl (by kernel_rfl) rfl rfl rfl rfl rfl rfl rfl (by omega) rfl ?_
          refine RH.pure T_ok hQ [26] (by kernel_rfl) rfl ?_
          refine RH.load T_ok hQ 27 (fun m' hm' => by rw [hm']; exact hy 3 _ rfl) rfl (by kernel_rfl) rfl rfl rfl rfl ?_
          refine RH.pure T_ok hQ [28] (by kernel_rfl) rfl ?_
          refine RH.load T_ok hQ 29 (fun m' hm' => by rw [hm']; exact hB7.cell 3 rfl) rfl (by kernel_rfl) rfl rfl rfl rfl ?_
          refine RH.pure T_ok hQ [30] (by kernel_rfl) rfl ?_
          by_cases h3 : y.n = x.n
          · refine RH.eqv (v' := .bool true) (congrArg _ (by rw [deq]; exact decide_eq_true h3)) ?_
            refine RH.pure T_ok hQ [31] (by kernel_rfl) rfl ?_
            refine RH.done (by kernel_rfl) (fun _ => ?_)
            repeat (first | with_reducible refine QN.block_normal ?_ | with_reducible refine QN.next ?_)
            refine WP.condT rfl ?_
            have hO8 : Ev.Own m7 S 101 4 (.slice (some ad5) (y :: r').length c5) (y :: r').length ((r'.reverse ++ [y]).flatMap tC) := by
              have := hO7; rw [List.reverse_cons] at this; exact this
            obtain ⟨g, cap, cur, hv8, hB8, rfl, hj8, hset⟩ := hO8.putN (j := r'.length * 4 + 2) (by rw [hrl]; omega)
            injection hv8 with hv8 hv8'
            injection hv8 with hv8
            subst hv8
            repeat (first | with_reducible refine WP.seq ?_ | with_reducible refine WP.block ?_ | with_reducible refine WP.region ?_)
            refine RL.auto T_ok rfl ?_
            refine RL.load T_ok rfl rfl rfl (hB7.cell 2 rfl) rfl ?_
            refine RL.indexAddr (k := r'.length) T_ok rfl rfl rfl rfl rfl rfl rfl (by omega) rfl ?_
            refine RL.eqv (v' := .pointer (some ⟨g, r'.length * 4, none⟩)) (congrArg (fun q => Value.pointer (some q)) (by rw [add_block]; show (⟨g, 0 + r'.length * 4, none⟩ : Addr) = _; rw [Nat.zero_add])) ?_
            refine RL.auto T_ok rfl ?_
            refine RL.store T_ok hB8 (i := r'.length * 4 + 2) (v := .int .u64 x.t) hj8 rfl rfl rfl rfl rfl rfl ?_
            intro m9 hC9
            have hO9 := hset m9 _ hC9
            rw [show r'.length * 4 + 2 = r'.reverse.length * 4 + 2 by rw [List.length_reverse], tsC_setT, ← List.reverse_cons] at hO9
            have htj : tj (y :: r') x = { y with t := x.t } :: r' := by rw [tj_cons, if_pos ⟨h1, h2, h3⟩]
            refine RL.nil ?_; repeat (first | with_reducible refine QN.block_normal ?_ | with_reducible refine QN.next ?_); repeat (first | with_reducible refine WP.seq ?_ | with_reducible refine WP.block ?_ | with_reducible refine WP.region ?_)
            refine RL.auto T_ok rfl ?_
            refine RL.nil ?_; repeat (first | with_reducible refine QN.block_normal ?_ | with_reducible refine QN.next ?_); repeat (first | with_reducible refine WP.seq ?_ | with_reducible refine WP.block ?_ | with_reducible refine WP.region ?_)
            refine WP.ret ?_; repeat (first | with_reducible refine QN.then_ret ?_ | with_reducible refine QN.block_ret ?_)
            refine QN.ret1 rfl rfl ⟨_, rfl, [g], ?_, (hE7.mono (by simp)).trans hC9.ext (fun k hk => .inl hk), FpNew.refl _ _⟩
            rw [htj]; exact hO9
          · refine RH.eqv (v' := .bool false) (congrArg _ (by rw [deq]; exact decide_eq_false h3)) ?_
            refine RH.pure T_ok hQ [31] (by kernel_rfl) rfl ?_
            refine RH.done (by kernel_rfl) (fun _ => ?_)
            repeat (first | with_reducible refine QN.block_normal ?_ | with_reducible refine QN.next ?_)
            refine WP.condF rfl ?_
            refine WP.skip ?_
            exact QN.cutEnd () (Sub.cons rfl (Sub.cons rfl Sub.nil)) ⟨rfl, by rw [tj_cons, if_neg (fun hh => h3 hh.2.2)]⟩
        · refine RH.eqv (v' := .bool false) (congrArg _ (by rw [deq]; exact decide_eq_false h2)) ?_
          refine RH.pure T_ok hQ [21, 22, 23, 24, 25, 26, 27, 28, 29, 30, 31] (by kernel_rfl) rfl ?_
          refine RH.done (by kernel_rfl) (fun _ => ?_)
          repeat (first | with_reducible refine QN.block_normal ?_ | with_reducible refine QN.next ?_)
          refine WP.condF rfl ?_
          refine WP.skip ?_
          exact QN.cutEnd () (Sub.cons rfl (Sub.cons rfl Sub.nil)) ⟨rfl, by rw [tj_cons, if_neg (fun hh => h2 hh.2.1)]⟩
      · refine RH.eqv (v' := .bool false) (congrArg _ (by rw [deq]; exact decide_eq_false h1)) ?_
        refine RH.pure T_ok hQ [11, 12, 13, 14, 15, 16, 17, 18, 19, 20, 21, 22, 23, 24, 25, 26, 27, 28, 29, 30, 31] (by kernel_rfl) rfl ?_
        refine RH.done (by kernel_rfl) (fun _ => ?_)
        repeat (first | with_reducible refine QN.block_normal ?_ | with_reducible refine QN.next ?_)
        refine WP.condF rfl ?_
        refine WP.skip ?_
        exact QN.cutEnd () (Sub.cons rfl (Sub.cons rfl Sub.nil)) ⟨rfl, by rw [tj_cons, if_neg (fun hh => h1 hh.1)]⟩
  · rintro _ mc ⟨rfl, htj⟩
    repeat (first | with_reducible refine QN.block_normal ?_ | with_reducible refine QN.next ?_)
    repeat (first | with_reducible refine WP.seq ?_ | with_reducible refine WP.block ?_ | with_reducible refine WP.region ?_)
    refine RL.auto T_ok rfl ?_
    refine RL.loadAgg T_ok (tC x) rfl rfl rfl (fun j u hu => by rw [add_block]; exact hB7.cell _ (by simpa using hu)) rfl ?_
    refine RL.append1 T_ok [.tmp 49] hO7 (us := [tV x]) (tC x) rfl rfl rfl rfl rfl rfl rfl rfl rfl (by simp [tV, tC, Value.cells]) (by simp [tV, Value.cells]) (tC_one x) (by unfold maxLen; omega) (by show (_ + 1) * 32 ≤ _; omega) ?_
    intro v8 m8 S8 hO8 hE8 hF8
    refine ⟨_, rfl, ?_⟩
    refine RL.auto T_ok rfl ?_
    refine RL.nil ?_; repeat (first | with_reducible refine QN.block_normal ?_ | with_reducible refine QN.next ?_); repeat (first | with_reducible refine WP.seq ?_ | with_reducible refine WP.block ?_ | with_reducible refine WP.region ?_)
    refine WP.ret ?_; repeat (first | with_reducible refine QN.then_ret ?_ | with_reducible refine QN.block_ret ?_)
    refine QN.ret1 rfl rfl ⟨_, rfl, S8, ?_, (hE7.mono (by simp)).trans hE8 (fun k hk => .inl hk), hF8.trans' hE7⟩
    rw [htj, List.reverse_cons, ← tsC_app]
    exact hO8
end Go.Proofs.Ytkfakfbndnbpiaa
