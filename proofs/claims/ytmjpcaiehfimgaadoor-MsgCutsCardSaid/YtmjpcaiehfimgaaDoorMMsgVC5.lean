/- Texts that belong together. -/
import Derived.Test.YtmjpcaiehfimgaaDoorMMsgVC4
section
namespace Go.Ev
open Go.RowKit
section
variable {P : Program} {T : Ty} {ops : Array Oper} {Q : Exit → Act → World → Prop} {rest : List Oper} {n : Nat} {e e' : Env} {D : Fr} {m : World}
  {d : Option Tmp} {x : Operand} {t ty : TypeId} {pos : String} {aft : Array Edge} {g : Option (Nat × Bool)} {r : Row}
theorem RL.clear (hT : T.Ok P) {te tb : TypeId} {b off k c : Nat} {cs : List Value} (he : T.elem t = some (te, r)) (hB : Blk m b tb cs) (hg : gd ops e ⟨d, .call ⟨.builtin .clear, #[x], #[t]⟩, ty, pos, aft, g⟩ = some true)
    (hx : e.ev x = some (.slice (some ⟨b, off, none⟩) k c)) (hk : 0 < k) (hlen : off + k * r.size ≤ cs.length) (h1 : ∀ v ∈ (Builtin.zeroCells r.zero.cells k).toList, v.oneCell' = true) (hp : putE n d (.tuple #[]) e = some e')
    (h : ∀ m', Chg m b (.cells (cs.take off ++ (Builtin.zeroCells r.zero.cells k).toList ++ cs.drop (off + k * r.size)).toArray tb (0, 0)) m' → RL P ops Q rest n e' D m') :
    RL P ops Q (⟨d, .call ⟨.builtin .clear, #[x], #[t]⟩, ty, pos, aft, g⟩ :: rest) n e D m := by
  obtain ⟨rt, hrt, hkk, hr, hcz, hsz, _⟩ := Ty.elem_spec he
  have hu := (hT.row hrt).k
  rw [hkk] at hu
  obtain ⟨i, hi, hz0, hz1, _⟩ := (hT.row hr).parts
  have hl := size_zero r.zero.cells k
  rw [hcz] at hl
  refine RL.valueW _ (m.setRow b (cs.take off ++ (Builtin.zeroCells r.zero.cells k).toList ++ cs.drop (off + k * r.size)).toArray) hg (fun a w hf hs => ?_) hp (h _ (setRow_chg hB _))
  have hw : w.heap[b]? = some (.cells cs.toArray tb (0, 0)) := by rw [hs.heap]; exact hB
  have h3 := run_storeCells_at P b off tb (Builtin.zeroCells r.zero.cells k).toList 0 cs.toArray w hw (by rw [List.size_toArray]; omega) h1
  refine ⟨w.setRow b (cs.take off ++ (Builtin.zeroCells r.zero.cells k).toList ++ cs.drop (off + k * r.size)).toArray, ?_, hs.setRow b _⟩
  simp only [Nat.add_zero] at h3
  rw [hl] at h3
  obtain ⟨q, rfl⟩ : ∃ q, k = q + 1 := ⟨k - 1, by omega⟩
  simp [execOp, resolve, invoke, builtin, Builtin.clear_, hf.ev hx, run_underlying hu, zeroValue, typeInfo, hi, hz0]
  simp only [List.append_assoc] at h3
  rw [h3]
  simp
end
theorem Own.cutTo {m : World} {S : List Nat} {t : TypeId} {sz g n cap i : Nat} {xs : List Value} (h : Ev.Own m S t sz (.slice (some ⟨g, 0, none⟩) n cap) n xs) (hn : 0 < n) (hi : i ≤ n) : Ev.Own m S t sz (.slice (some ⟨g, 0, none⟩) i cap) i (xs.take (i * sz)) := by
  obtain ⟨g', cap', cur, hv, hB, h1, h2, h3, h4, rfl⟩ := h.at_ hn
  injection hv with hv hv2 hv3
  injection hv with hv
  injection hv with hv
  subst hv; subst hv3
  have hle : i * sz ≤ n * sz := Nat.mul_le_mul_right _ hi
  refine ⟨?_, .inr ⟨g, cap, cur, rfl, hB, by omega, h2, h3, ?_, rfl⟩⟩
  · rw [List.length_take, h.1]; omega
  · rw [← h4, List.take_take, Nat.min_eq_left hle]
end Go.Ev
namespace Go.Proofs.YtmjpcaiehfimgaaDoor
open Go.RowKit Go.Ev Go.Ids
theorem tzero_one (k : Nat) : ∀ v ∈ (Builtin.zeroCells (#[.int .u64 0, .int .u64 0, .int .u64 0, .int .u64 0] : Array Value) k).toList, v.oneCell' = true := by
  intro v hv
  simp only [Builtin.zeroCells, Array.toList_map, List.mem_map] at hv
  obtain ⟨q, _, rfl⟩ := hv
  have h4 : q % (#[.int .u64 0, .int .u64 0, .int .u64 0, .int .u64 0] : Array Value).size < 4 := Nat.mod_lt _ (by simp)
  generalize q % (#[.int .u64 0, .int .u64 0, .int .u64 0, .int .u64 0] : Array Value).size = z at h4
  match z, h4 with
  | 0, _ => rfl
  | 1, _ => rfl
  | 2, _ => rfl
  | 3, _ => rfl
theorem tsC_take (l : List Trn) (k : Nat) : (l.flatMap tC).take (k * 4) = (l.take k).flatMap tC := by
  induction k generalizing l with
  | zero => simp
  | succ k ih =>
    cases l with
    | nil => simp
    | cons x l =>
      rw [List.flatMap_cons, List.take_succ_cons, List.flatMap_cons, ← ih l, Nat.succ_mul, Nat.add_comm]
      exact List.take_length_add_append (l₁ := tC x) (k * 4)
theorem tsC_drop (l : List Trn) (k : Nat) : (l.flatMap tC).drop (k * 4) = (l.drop k).flatMap tC := by
  induction k generalizing l with
  | zero => simp
  | succ k ih =>
    cases l with
    | nil => simp
    | cons x l =>
      rw [List.flatMap_cons, List.drop_succ_cons, ← ih l, Nat.succ_mul, Nat.add_comm, ← List.drop_drop]
      rfl
theorem tsC_put (l : List Trn) (k : Nat) (y : Trn) : (l.flatMap tC).take (k * 4) ++ tC y ++ (l.flatMap tC).drop (k * 4 + 4) = (l.take k ++ [y] ++ l.drop (k + 1)).flatMap tC := by
  rw [tsC_take, show k * 4 + 4 = (k + 1) * 4 by omega, tsC_drop]; simp
theorem tsC_app (a b : List Trn) : a.flatMap tC ++ b.flatMap tC = (a ++ b).flatMap tC := by simp
theorem indexT_c (m : World) (v : Value) (l : List Trn) (h : Ts m [] v l) (hl : l.length < 1000000000) (k : FuncId) (ca : List Value) (p : Trn → Bool) (hf : ∀ m1 x, Ext m [] m1 → FnR Tryd.prog k (tV x :: ca) m1 fun r m2 => r = .bool (p x) ∧ Ext m1 [] m2) :
    FnR Tryd.prog 55 [v, .func (.func k) #[] ca.toArray] m fun r m' => ((r = .int .i64 (-1) ∧ l.any p = false) ∨ ∃ i : Nat, r = .int .i64 i ∧ i < l.length ∧ (l.take i).any p = false ∧ ∃ h : i < l.length, p l[i] = true) ∧ Ext m [] m' := by
  obtain ⟨A, c, rfl, _, _⟩ := h.shape
  refine FnE.enter ⟨_, Tryd.func55, by kernel_rfl, by kernel_rfl⟩ Tryd.func55 rfl rfl ?_
  (with_reducible repeat (first | refine WP.S1 ?_ | refine WP.B1 ?_ | refine WP.R1 ?_))
  refine RL.A1 T_ok rfl ?_
  refine RL.N1 ?_; (with_reducible repeat (first | refine QN.B1 ?_ | refine QN.N1 ?_ | refine WP.S1 ?_ | refine WP.B1 ?_ | refine WP.R1 ?_))
  refine RL.A1 T_ok rfl ?_
  refine RL.N1 ?_; (with_reducible repeat (first | refine QN.B1 ?_ | refine QN.N1 ?_ | refine WP.S1 ?_ | refine WP.B1 ?_ | refine WP.R1 ?_))
  refine WP.loop (X := Nat) (fun i => [(0, .slice A l.length c), (1, .func (.func k) #[] ca.toArray), (7, .int .i64 l.length), (8, .int .i64 i)]) (fun i m' => i ≤ l.length ∧ (l.take i).any p = false ∧ Ext m [] m') (fun i => l.length - i) 0
    (Sub.C1 rfl (Sub.C1 rfl (Sub.C1 rfl (Sub.C1 rfl Sub.nil)))) ⟨by simp, by simp, Ext.refl _ _⟩ ?_
  rintro i m1 ⟨hi, ht, hE⟩
  (with_reducible repeat (first | refine WP.S1 ?_ | refine WP.B1 ?_ | refine WP.R1 ?_))
  refine RL.A1 T_ok rfl ?_
  refine RL.N1 ?_; (with_reducible repeat (first | refine QN.B1 ?_ | refine QN.N1 ?_ | refine WP.S1 ?_ | refine WP.B1 ?_ | refine WP.R1 ?_))
  refine WP.cond rfl (fun hc => ?_) (fun hc => ?_)
  · have hc : i < l.length := by have := of_decide_eq_true hc; omega
    obtain ⟨ad, rfl, hx⟩ := (h.ext0 hE).cell i hc
    refine WP.skip ?_; (with_reducible repeat (first | refine QN.B1 ?_ | refine QN.N1 ?_ | refine WP.S1 ?_ | refine WP.B1 ?_ | refine WP.R1 ?_))
    refine RL.A1 T_ok rfl ?_
    refine RL.N1 ?_; (with_reducible repeat (first | refine QN.B1 ?_ | refine QN.N1 ?_ | refine WP.S1 ?_ | refine WP.B1 ?_ | refine WP.R1 ?_))
    refine RL.A1 T_ok rfl ?_
    refine RL.indexAddr (k := i) T_ok rfl rfl rfl rfl rfl rfl rfl hc rfl ?_
    refine RL.loadAgg T_ok (tC l[i]) rfl rfl rfl hx rfl ?_
    refine RL.call (fi := []) (ca := ca) rfl rfl rfl rfl (hf m1 l[i] hE) ?_
    rintro _ m2 ⟨rfl, hE2⟩
    refine ⟨_, rfl, ?_⟩
    have hEm := hE.trans hE2 (by simp)
    refine RL.N1 ?_; (with_reducible repeat (first | refine QN.B1 ?_ | refine QN.N1 ?_ | refine WP.S1 ?_ | refine WP.B1 ?_ | refine WP.R1 ?_))
    refine WP.cond rfl (fun hp => ?_) (fun hp => ?_)
    · (with_reducible repeat (first | refine WP.S1 ?_ | refine WP.B1 ?_ | refine WP.R1 ?_))
      refine RL.A1 T_ok rfl ?_
      refine RL.N1 ?_; (with_reducible repeat (first | refine QN.B1 ?_ | refine QN.N1 ?_ | refine WP.S1 ?_ | refine WP.B1 ?_ | refine WP.R1 ?_))
      refine WP.ret ?_; (with_reducible repeat (first | refine QN.tr ?_ | refine QN.br ?_))
      exact QN.ret1 rfl rfl ⟨_, rfl, .inr ⟨i, rfl, hc, ht, hc, hp⟩, hEm⟩
    · refine WP.skip ?_; (with_reducible repeat (first | refine QN.B1 ?_ | refine QN.N1 ?_ | refine WP.S1 ?_ | refine WP.B1 ?_ | refine WP.R1 ?_))
      refine RL.A1 T_ok rfl ?_
      refine RL.N1 (QN.round (i + 1) (Sub.C1 rfl (Sub.C1 rfl (Sub.C1 rfl (Sub.C1 ?_ Sub.nil)))) ⟨by omega, ?_, hEm⟩ (by omega))
      · show some (Value.int .i64 (IntKind.i64.wrap ((i : Int) + 1))) = some (Value.int .i64 ((i + 1 : Nat) : Int))
        rw [wrap_i64_in _ (by omega) (by omega)]; rfl
      · rw [List.take_succ_eq_append_getElem hc, List.any_append, ht]
        simp [hp]
  · have hc : i = l.length := by have := of_decide_eq_false hc; omega
    subst hc
    rw [List.take_length] at ht
    refine WP.exit ?_; (with_reducible repeat (first | refine QN.tx ?_ | refine QN.bx ?_ | refine QN.block_far rfl ?_ | refine QN.B1 ?_ | refine QN.N1 ?_)); (with_reducible repeat (first | refine WP.S1 ?_ | refine WP.B1 ?_ | refine WP.R1 ?_))
    refine RL.A1 T_ok rfl ?_
    refine RL.N1 ?_; (with_reducible repeat (first | refine QN.B1 ?_ | refine QN.N1 ?_ | refine WP.S1 ?_ | refine WP.B1 ?_ | refine WP.R1 ?_))
    refine WP.ret ?_; (with_reducible repeat (first | refine QN.tr ?_ | refine QN.br ?_))
    exact QN.ret1 rfl rfl ⟨_, rfl, .inl ⟨rfl, ht⟩, hE⟩
theorem filter_none {p : Trn → Bool} {l : List Trn} (h : l.any p = false) : l.filter (fun x => !p x) = l := by
  rw [List.filter_eq_self]
  intro x hx
  have := List.any_eq_false.1 h x hx
  simp [this]
theorem deleteT_c (m : World) (S : List Nat) (v : Value) (l : List Trn) (h : Ev.Own m S 53 4 v l.length (l.flatMap tC)) (hl : l.length < 1000000000) (k : FuncId) (ca : List Value) (p : Trn → Bool) (K : World → Prop) (hK0 : K m) (hK : ∀ a b, K a → Ext a S b → K b)
    (hf : ∀ m1 x, K m1 → FnR Tryd.prog k (tV x :: ca) m1 fun r m2 => r = .bool (p x) ∧ Ext m1 [] m2) :
    FnR Tryd.prog 37 [v, .func (.func k) #[] ca.toArray] m fun r m' => Ev.Own m' S 53 4 r (l.filter fun x => !p x).length ((l.filter fun x => !p x).flatMap tC) ∧ Ext m S m' := by
  have hT : Ts m [] v l := h.sl (by simp)
  refine FnE.enter ⟨_, Tryd.func37, by kernel_rfl, by kernel_rfl⟩ Tryd.func37 rfl rfl ?_
  (with_reducible repeat (first | refine WP.S1 ?_ | refine WP.B1 ?_ | refine WP.R1 ?_))
  refine RL.A1 T_ok rfl ?_
  refine RL.N1 ?_; (with_reducible repeat (first | refine QN.B1 ?_ | refine QN.N1 ?_ | refine WP.S1 ?_ | refine WP.B1 ?_ | refine WP.R1 ?_))
  refine RL.A1 T_ok rfl ?_
  refine RL.call (fi := []) (ca := []) rfl rfl rfl rfl (indexT_c m v l hT hl k ca p (fun m1 x hE => hf m1 x (hK m m1 hK0 (hE.mono (by simp))))) ?_
  rintro _ m1 ⟨⟨rfl, hn⟩ | ⟨i0, rfl, hi0, hpre, hi1, hp0⟩, hE1⟩
  · refine ⟨_, rfl, ?_⟩
    refine RL.A1 T_ok rfl ?_
    refine RL.N1 ?_; (with_reducible repeat (first | refine QN.B1 ?_ | refine QN.N1 ?_ | refine WP.S1 ?_ | refine WP.B1 ?_ | refine WP.R1 ?_))
    refine RL.A1 T_ok rfl ?_
    refine RL.N1 ?_; (with_reducible repeat (first | refine QN.B1 ?_ | refine QN.N1 ?_ | refine WP.S1 ?_ | refine WP.B1 ?_ | refine WP.R1 ?_))
    refine WP.condT rfl ?_
    (with_reducible repeat (first | refine WP.S1 ?_ | refine WP.B1 ?_ | refine WP.R1 ?_))
    refine RL.A1 T_ok rfl ?_
    refine RL.N1 ?_; (with_reducible repeat (first | refine QN.B1 ?_ | refine QN.N1 ?_ | refine WP.S1 ?_ | refine WP.B1 ?_ | refine WP.R1 ?_))
    refine WP.ret ?_; (with_reducible repeat (first | refine QN.tr ?_ | refine QN.br ?_))
    refine QN.ret1 rfl rfl ⟨_, rfl, ?_, hE1.mono (by simp)⟩
    rw [filter_none hn]
    exact h.ext hE1 (by simp)
  · refine ⟨_, rfl, ?_⟩
    have hO1 := h.ext hE1 (by simp)
    have hK1 := hK m m1 hK0 (hE1.mono (by simp))
    obtain ⟨g, cap, cur, rfl, _, _, _, _, _, rfl⟩ := h.at_ (by omega)
    refine RL.A1 T_ok rfl ?_
    refine RL.N1 ?_; (with_reducible repeat (first | refine QN.B1 ?_ | refine QN.N1 ?_ | refine WP.S1 ?_ | refine WP.B1 ?_ | refine WP.R1 ?_))
    refine RL.pure T_ok 2 rfl ?_
    refine RL.eqv (v' := .bool false) (congrArg _ (beq_eq_false_iff_ne.2 (by omega))) ?_
    refine RL.N1 ?_; (with_reducible repeat (first | refine QN.B1 ?_ | refine QN.N1 ?_ | refine WP.S1 ?_ | refine WP.B1 ?_ | refine WP.R1 ?_))
    refine WP.condF rfl ?_
    refine WP.skip ?_; (with_reducible repeat (first | refine QN.B1 ?_ | refine QN.N1 ?_ | refine WP.S1 ?_ | refine WP.B1 ?_ | refine WP.R1 ?_))
    refine RL.pure T_ok 2 rfl ?_
    refine RL.eqv (v' := .int .i64 ((i0 + 1 : Nat) : Int)) (congrArg _ (by rw [wrap_i64_in _ (by omega) (by omega)]; rfl)) ?_
    refine RL.A1 T_ok rfl ?_
    refine RL.N1 ?_; (with_reducible repeat (first | refine QN.B1 ?_ | refine QN.N1 ?_ | refine WP.S1 ?_ | refine WP.B1 ?_ | refine WP.R1 ?_))
    have hF0 : (l.take (i0 + 1)).filter (fun x => !p x) = l.take i0 := by
      rw [List.take_succ_eq_append_getElem hi0, List.filter_append, filter_none hpre]
      simp [hp0]
    refine (WP.loop (X := Nat × List Trn) (fun q => [(0, .slice (some ⟨g, 0, none⟩) l.length cap), (1, .func (.func k) #[] ca.toArray), (5, .int .i64 ((l.take q.1).filter fun x => !p x).length), (6, .int .i64 q.1)])
      (fun q m' => q.1 ≤ l.length ∧ ((l.take q.1).filter fun x => !p x).length < q.1 ∧ q.2.length = l.length ∧ q.2.take ((l.take q.1).filter fun x => !p x).length = ((l.take q.1).filter fun x => !p x) ∧ q.2.drop q.1 = l.drop q.1 ∧
        Ev.Own m' [g] 53 4 (.slice (some ⟨g, 0, none⟩) l.length cap) l.length (q.2.flatMap tC) ∧ Ext m [g] m' ∧ K m') (fun q => l.length - q.1) (i0 + 1, l)
      (Sub.C1 rfl (Sub.C1 rfl (Sub.C1 ?_ (Sub.C1 rfl Sub.nil)))) ⟨hi0, by rw [hF0, List.length_take]; omega, rfl, by rw [hF0, List.length_take, Nat.min_eq_left (by omega)], rfl, hO1, hE1.mono (by simp), hK1⟩ ?_)
    · show some (Value.int .i64 (i0 : Int)) = some (Value.int .i64 ((((l.take (i0 + 1)).filter fun x => !p x).length : Nat) : Int))
      rw [hF0, List.length_take, Nat.min_eq_left (by omega)]
    rintro ⟨j, L⟩ m2 ⟨hj, hlt, hLl, hLt, hLd, hO2, hE2, hK2⟩
    simp only at hj hlt hLl hLt hLd hO2 hK2
    (with_reducible repeat (first | refine WP.S1 ?_ | refine WP.B1 ?_ | refine WP.R1 ?_))
    refine RL.A1 T_ok rfl ?_
    refine RL.N1 ?_; (with_reducible repeat (first | refine QN.B1 ?_ | refine QN.N1 ?_ | refine WP.S1 ?_ | refine WP.B1 ?_ | refine WP.R1 ?_))
    refine WP.cond rfl (fun hc => ?_) (fun hc => ?_)
    · replace hc : j < l.length := by have := of_decide_eq_true hc; simp only at this; omega
      have hR2 : Ts m2 [] (.slice (some ⟨g, 0, none⟩) L.length cap) L := by rw [hLl]; exact hO2.sl (by simp)
      obtain ⟨ad, had, hx⟩ := hR2.cell j (by omega)
      injection had with had
      subst had
      have hLj : L[j]'(by omega) = l[j] := by
        have h1 : (L.drop j)[0]? = (l.drop j)[0]? := by rw [hLd]
        rw [List.getElem?_drop, List.getElem?_drop, Nat.add_zero, List.getElem?_eq_getElem (by omega), List.getElem?_eq_getElem hc] at h1
        exact Option.some.inj h1
      rw [hLj] at hx
      have hstep : (l.take (j + 1)).filter (fun x => !p x) = (l.take j).filter (fun x => !p x) ++ (if p l[j] then [] else [l[j]]) := by
        rw [List.take_succ_eq_append_getElem hc, List.filter_append]
        cases h : p l[j] <;> simp [h]
      have hLd' : L.drop (j + 1) = l.drop (j + 1) := by
        have h1 := congrArg (List.drop 1) hLd
        rwa [List.drop_drop, List.drop_drop] at h1
      generalize (l.take j).filter (fun x => !p x) = F at hlt hLt hstep
      obtain ⟨x, hxe⟩ : ∃ x, l[j] = x := ⟨_, rfl⟩
      rw [hxe] at hx hstep
      refine WP.skip ?_; (with_reducible repeat (first | refine QN.B1 ?_ | refine QN.N1 ?_ | refine WP.S1 ?_ | refine WP.B1 ?_ | refine WP.R1 ?_))
      refine RL.A1 T_ok rfl ?_
      refine RL.indexAddr (k := j) T_ok rfl rfl rfl rfl rfl rfl rfl hc rfl ?_
      refine RL.loadAgg T_ok (tC x) rfl rfl rfl hx rfl ?_
      refine RL.alloc T_ok rfl rfl (fun b7 m3 hb7 hC3 => ⟨_, rfl, ?_⟩)
      refine RL.storeAgg T_ok (b := b7) (i := 0) (vs := tC x) (cs := [.int .u64 0, .int .u64 0, .int .u64 0, .int .u64 0]) hC3.blk rfl rfl rfl rfl rfl (by simp) (by simp [tC, Value.oneCell']) rfl ?_
      intro m4 hC4
      have hE4 : Ext m2 [] m4 := (hC3.new (by omega)).trans hC4.ext (fun q hq => .inr (by have h9 : q = b7 := (by simpa using hq); omega))
      have hB4 : Blk m4 b7 53 (tC x) := hC4.blk
      have hO4 := hO2.ext hE4 (by simp)
      have hK4 := hK _ _ hK2 (hE4.mono (by simp))
      have l4 := hO2.lt g (by simp)
      refine RL.N1 ?_; (with_reducible repeat (first | refine QN.B1 ?_ | refine QN.N1 ?_ | refine WP.S1 ?_ | refine WP.B1 ?_ | refine WP.R1 ?_))
      refine RL.A1 T_ok rfl ?_
      refine RL.loadAgg T_ok (tC x) rfl rfl rfl (fun j u hu => by rw [add_block]; exact hB4.cell _ (by simpa using hu)) rfl ?_
      refine RL.call (fi := []) (ca := ca) rfl rfl rfl rfl (hf m4 x hK4) ?_
      rintro _ m5 ⟨rfl, hE5⟩
      refine ⟨_, rfl, ?_⟩
      have hB5 := hB4.ext hE5 (by simp)
      have hO5 := hO4.ext hE5 (by simp)
      have hK5 := hK _ _ hK4 (hE5.mono (by simp))
      have hE25 : Ext m2 [] m5 := hE4.trans hE5 (by simp)
      refine RL.A1 T_ok rfl ?_
      refine RL.N1 ?_; (with_reducible repeat (first | refine QN.B1 ?_ | refine QN.N1 ?_ | refine WP.S1 ?_ | refine WP.B1 ?_ | refine WP.R1 ?_))
      refine WP.cond rfl (fun hpx => ?_) (fun hpx => ?_)
      · have hpx : p x = false := by simpa using hpx
        rw [hpx, if_neg (by simp)] at hstep
        obtain ⟨g', cap', cur, hv5, hB5g, hgg, hj5, hset⟩ := hO5.putK (j := F.length * 4) (k := 4) (by omega) (by omega)
        injection hv5 with hv5 hv5'
        injection hv5 with hv5
        injection hv5 with hv5
        subst hv5
        (with_reducible repeat (first | refine WP.S1 ?_ | refine WP.B1 ?_ | refine WP.R1 ?_))
        refine RL.A1 T_ok rfl ?_
        refine RL.loadAgg T_ok (tC x) rfl rfl rfl (fun j u hu => by rw [add_block]; exact hB5.cell _ (by simpa using hu)) rfl ?_
        refine RL.indexAddr (k := F.length) T_ok rfl rfl rfl rfl rfl rfl rfl (by omega) rfl ?_
        refine RL.eqv (v' := .pointer (some ⟨g, F.length * 4, none⟩)) (congrArg (fun q => Value.pointer (some q)) (by rw [add_block]; show (⟨g, 0 + F.length * 4, none⟩ : Addr) = _; rw [Nat.zero_add])) ?_
        refine RL.storeAgg T_ok (b := g) (i := F.length * 4) (vs := tC x) hB5g rfl rfl rfl rfl rfl hj5 (tC_one _) rfl ?_
        intro m6 hC6
        have hO6 := hset m6 (tC x) rfl hC6
        rw [tsC_put] at hO6
        have hE6 : Ext m [g] m6 := (hE2.trans (hE25.mono (by simp)) (fun k hk => .inl hk)).trans hC6.ext (fun k hk => .inl hk)
        have hK6 := hK _ _ hK5 hC6.ext
        have hLL : (L.take F.length ++ [x] ++ L.drop (F.length + 1)).length = l.length := by simp; omega
        refine RL.N1 ?_; (with_reducible repeat (first | refine QN.B1 ?_ | refine QN.N1 ?_ | refine WP.S1 ?_ | refine WP.B1 ?_ | refine WP.R1 ?_))
        refine RL.pure T_ok 2 rfl ?_
        refine RL.eqv (v' := .int .i64 ((F.length + 1 : Nat) : Int)) (congrArg _ (by rw [wrap_i64_in _ (by omega) (by omega)]; rfl)) ?_
        refine RL.A1 T_ok rfl ?_
        refine RL.N1 ?_; (with_reducible repeat (first | refine QN.B1 ?_ | refine QN.N1 ?_ | refine WP.S1 ?_ | refine WP.B1 ?_ | refine WP.R1 ?_))
        refine RL.pure T_ok 2 rfl ?_
        refine RL.eqv (v' := .int .i64 ((j + 1 : Nat) : Int)) (congrArg _ (by rw [wrap_i64_in _ (by omega) (by omega)]; rfl)) ?_
        refine RL.A1 T_ok rfl ?_
        have hFl : ((l.take (j + 1)).filter fun x => !p x).length = F.length + 1 := by rw [hstep]; simp
        refine RL.N1 (QN.round (j + 1, L.take F.length ++ [x] ++ L.drop (F.length + 1)) (Sub.C1 rfl (Sub.C1 rfl (Sub.C1 ?_ (Sub.C1 rfl Sub.nil)))) ⟨by show j + 1 ≤ _; omega, ?_, hLL, ?_, ?_, hO6, hE6, hK6⟩ (by show _ - (j + 1) < _ - j; omega))
        · show some (Value.int .i64 ((F.length + 1 : Nat) : Int)) = some (Value.int .i64 ((((l.take (j + 1)).filter fun x => !p x).length : Nat) : Int))
          rw [hFl]
        · show ((l.take (j + 1)).filter fun x => !p x).length < j + 1
          rw [hFl]; omega
        · show (L.take F.length ++ [x] ++ L.drop (F.length + 1)).take ((l.take (j + 1)).filter fun x => !p x).length = (l.take (j + 1)).filter fun x => !p x
          rw [hFl, hstep, hLt]
          have e1 : (F ++ [x]).length = F.length + 1 := by simp
          rw [← e1, List.take_left]
        · show (L.take F.length ++ [x] ++ L.drop (F.length + 1)).drop (j + 1) = l.drop (j + 1)
          have e1 : (L.take F.length ++ [x]).length = F.length + 1 := by simp; omega
          rw [List.drop_append, e1, List.drop_eq_nil_of_le (by rw [e1]; omega), List.nil_append, List.drop_drop, ← hLd']
          congr 1; omega
      · have hpx : p x = true := by simpa using hpx
        rw [hpx, if_pos rfl, List.append_nil] at hstep
        refine WP.skip ?_; (with_reducible repeat (first | refine QN.B1 ?_ | refine QN.N1 ?_ | refine WP.S1 ?_ | refine WP.B1 ?_ | refine WP.R1 ?_))
        refine RL.pure T_ok 2 rfl ?_
        refine RL.eqv (v' := .int .i64 ((j + 1 : Nat) : Int)) (congrArg _ (by rw [wrap_i64_in _ (by omega) (by omega)]; rfl)) ?_
        refine RL.A1 T_ok rfl ?_
        refine RL.N1 (QN.round (j + 1, L) (Sub.C1 rfl (Sub.C1 rfl (Sub.C1 ?_ (Sub.C1 rfl Sub.nil)))) ⟨by show j + 1 ≤ _; omega, ?_, hLl, ?_, hLd', hO5, hE2.trans (hE25.mono (by simp)) (fun k hk => .inl hk), hK5⟩ (by show _ - (j + 1) < _ - j; omega))
        · show some (Value.int .i64 ((F.length : Nat) : Int)) = some (Value.int .i64 ((((l.take (j + 1)).filter fun x => !p x).length : Nat) : Int))
          rw [hstep]
        · show ((l.take (j + 1)).filter fun x => !p x).length < j + 1
          rw [hstep]; omega
        · show L.take ((l.take (j + 1)).filter fun x => !p x).length = (l.take (j + 1)).filter fun x => !p x
          rw [hstep]; exact hLt
    · replace hc : j = l.length := by have := of_decide_eq_false hc; simp only at this; omega
      subst hc
      rw [List.take_length] at hlt hLt
      have e0 : (l.take l.length).filter (fun x => !p x) = l.filter (fun x => !p x) := by rw [List.take_length]
      have elen : (((l.take l.length).filter fun x => !p x).length : Nat) = (l.filter fun x => !p x).length := by rw [e0]
      generalize l.filter (fun x => !p x) = F at hlt hLt e0 elen ⊢
      refine WP.exit ?_; (with_reducible repeat (first | refine QN.tx ?_ | refine QN.bx ?_ | refine QN.block_far rfl ?_ | refine QN.B1 ?_ | refine QN.N1 ?_)); (with_reducible repeat (first | refine WP.S1 ?_ | refine WP.B1 ?_ | refine WP.R1 ?_))
      refine RL.sub (e' := [(0, .slice (some ⟨g, 0, none⟩) l.length cap), (5, .int .i64 (F.length : Nat))]) (Sub.C1 rfl (Sub.C1 ?_ Sub.nil)) ?_
      · show some (Value.int .i64 ((((l.take l.length).filter fun x => !p x).length : Nat) : Int)) = _
        rw [elen]
      have hcapl : l.length ≤ cap := by
        obtain ⟨g', cap', cur, hv, _, h9, _⟩ := hO2.at_ (by omega)
        injection hv with _ _ hv
      obtain ⟨g', cap', cur, hv5, hB5g, hgg, hj5, hset⟩ := hO2.putK (j := F.length * 4) (k := (l.length - F.length) * 4) (by omega) (by omega)
      injection hv5 with hv5 hv5'
      injection hv5 with hv5
      injection hv5 with hv5
      subst hv5
      refine RL.A1 T_ok rfl ?_
      refine RL.sliceFrom T_ok (l := F.length) rfl rfl rfl rfl rfl (by omega) rfl ?_
      refine RL.eqv (v' := .slice (some ⟨g, F.length * 4, none⟩) (l.length - F.length) (cap - F.length)) (by
        rw [if_neg (by omega)]
        show Value.slice (some ((⟨g, 0, none⟩ : Addr).add (F.length * 4))) _ _ = _
        rw [add_block, Nat.zero_add]) ?_
      refine RL.clear T_ok (b := g) (off := F.length * 4) (k := l.length - F.length) (cs := cur) rfl hB5g rfl rfl (by omega) hj5 (tzero_one _) rfl ?_
      intro m6 hC6
      have hO6 := hset m6 _ (by rw [size_zero]; rfl) hC6
      have hO7 := hO6.cutTo (i := F.length) (by omega) (by omega)
      have hE6 : Ext m [g] m6 := hE2.trans hC6.ext (fun k hk => .inl hk)
      rw [List.append_assoc, List.take_append_of_le_length (by rw [List.length_take, tsC_len, hLl]; omega), List.take_take, Nat.min_self, tsC_take, hLt] at hO7
      refine RL.N1 ?_; (with_reducible repeat (first | refine QN.B1 ?_ | refine QN.N1 ?_ | refine WP.S1 ?_ | refine WP.B1 ?_ | refine WP.R1 ?_))
      refine RL.A1 T_ok rfl ?_
      refine RL.sliceTo (l := F.length) T_ok rfl rfl rfl rfl rfl (by omega) rfl ?_
      refine RL.A1 T_ok rfl ?_
      refine RL.N1 ?_; (with_reducible repeat (first | refine QN.B1 ?_ | refine QN.N1 ?_ | refine WP.S1 ?_ | refine WP.B1 ?_ | refine WP.R1 ?_))
      refine WP.ret ?_; (with_reducible repeat (first | refine QN.tr ?_ | refine QN.br ?_))
      exact QN.ret1 rfl rfl ⟨_, rfl, hO7, hE6⟩
theorem del1_c (m : World) (x : Trn) (b7 : Nat) (a : Nat) (hB7 : Blk m b7 22 [.int .u64 a]) : FnR Tryd.prog 38 [tV x, .pointer (some ⟨b7, 0, none⟩)] m fun r m' => r = .bool (decide (x.t ≤ a)) ∧ Ext m [] m' := by
  refine FnE.enter ⟨_, Tryd.func38, by kernel_rfl, by kernel_rfl⟩ Tryd.func38 rfl rfl ?_
  (with_reducible repeat (first | refine WP.S1 ?_ | refine WP.B1 ?_ | refine WP.R1 ?_))
  refine RL.box rfl rfl (fun b m1 hb hC => ⟨_, rfl, ?_⟩)
  have hB : Blk m1 b 53 (tC x) := hC.here
  have hE : Ext m [] m1 := hC.new (by omega)
  have hD := hB7.ext hE (by simp)
  clear hC
  refine RL.A1 T_ok rfl ?_
  refine RL.N1 ?_; (with_reducible repeat (first | refine QN.B1 ?_ | refine QN.N1 ?_ | refine WP.S1 ?_ | refine WP.B1 ?_ | refine WP.R1 ?_))
  repeat (first | refine RL.pure T_ok 1 rfl ?_ | refine RL.load T_ok rfl rfl rfl (hB.cell _ rfl) rfl ?_ | refine RL.load T_ok rfl rfl rfl (hD.cell _ rfl) rfl ?_)
  refine RL.N1 ?_; (with_reducible repeat (first | refine QN.B1 ?_ | refine QN.N1 ?_ | refine WP.S1 ?_ | refine WP.B1 ?_ | refine WP.R1 ?_))
  refine WP.ret ?_; (with_reducible repeat (first | refine QN.tr ?_ | refine QN.br ?_))
  exact QN.ret1 rfl rfl ⟨_, rfl, congrArg _ (dle' _ _), hE⟩
theorem tsC_setT (a : List Trn) (y : Trn) (z : Nat) : ((a ++ [y]).flatMap tC).set (a.length * 4 + 2) (.int .u64 z) = (a ++ [{ y with t := z }]).flatMap tC := by
  rw [List.flatMap_append, List.flatMap_append, List.set_append_right _ _ (by rw [tsC_len]; omega), tsC_len]
  have : a.length * 4 + 2 - a.length * 4 = 2 := by omega
  rw [this]
  rfl
theorem joined_c (m : World) (S : List Nat) (v : Value) (r : List Trn) (x : Trn) (h : Ev.Own m S 53 4 v r.length (r.reverse.flatMap tC)) (hl : r.length < 1000000000) :
    FnR Tryd.prog 36 [v, tV x] m fun u m' => ∃ S', Ev.Own m' S' 53 4 u (tj r x).length ((tj r x).reverse.flatMap tC) ∧ Ext m S m' ∧ FpNew m S S' := by
  obtain ⟨A5, c5, rfl, hc5⟩ := h.shape
  refine FnE.enter ⟨_, Tryd.func36, by kernel_rfl, by kernel_rfl⟩ Tryd.func36 rfl rfl ?_
  (with_reducible repeat (first | refine WP.S1 ?_ | refine WP.B1 ?_ | refine WP.R1 ?_))
  refine RL.box rfl rfl (fun b7 m7 hb7 hC => ⟨_, rfl, ?_⟩)
  have hB7 : Blk m7 b7 53 (tC x) := hC.here
  have hE7 : Ext m [] m7 := hC.new (by omega)
  have hO7 := h.ext hE7 (by simp)
  have h7S : b7 ∉ S := fun hh => by have := h.lt _ hh; omega
  clear hC
  refine RL.A1 T_ok rfl ?_
  refine RL.N1 ?_; (with_reducible repeat (first | refine QN.B1 ?_ | refine QN.N1 ?_))
  refine WP.cut (X := Unit) (fun _ => [(0, .slice A5 r.length c5), (3, .pointer (some ⟨b7, 0, none⟩))]) (fun _ m' => m' = m7 ∧ tj r x = x :: r) ?_ ?_
  · (with_reducible repeat (first | refine WP.S1 ?_ | refine WP.B1 ?_ | refine WP.R1 ?_))
    rcases r with _ | ⟨y, r'⟩
    · refine RL.pure T_ok 3 rfl ?_
      refine RL.eqv (v' := .int .i64 (-1)) rfl ?_
      refine RL.A1 T_ok rfl ?_
      refine RL.N1 ?_; (with_reducible repeat (first | refine QN.B1 ?_ | refine QN.N1 ?_))
      (with_reducible repeat (first | refine WP.S1 ?_ | refine WP.B1 ?_ | refine WP.R1 ?_))
      refine WP.drawQ (fun m' => m' = m7) [] (by kernel_rfl) rfl (by with_reducible repeat (first | exact PanicOk.body | refine PanicOk.then_ ?_ | refine PanicOk.block_ ?_)) (fun hQ => ?_)
      refine RH.pure T_ok hQ [0, 1, 2, 3, 4, 5, 6, 7, 8, 9, 10, 11, 12, 13, 14, 15, 16, 17, 18, 19, 20, 21, 22, 23, 24, 25, 26, 27, 28, 29, 30, 31] (by kernel_rfl) rfl ?_
      refine RH.done (by kernel_rfl) (fun _ => ?_)
      (with_reducible repeat (first | refine QN.B1 ?_ | refine QN.N1 ?_))
      refine WP.condF rfl ?_
      refine WP.skip ?_
      exact QN.cutEnd () (Sub.C1 rfl (Sub.C1 rfl Sub.nil)) ⟨rfl, rfl⟩
    · have hrl : (y :: r').length = r'.length + 1 := rfl
      refine RL.pure T_ok 3 rfl ?_
      refine RL.eqv (v' := .int .i64 r'.length) (congrArg _ (by show IntKind.i64.wrap (((r'.length + 1 : Nat) : Int) - 1) = r'.length; rw [wrap_i64_in _ (by omega) (by omega)]; omega)) ?_
      refine RL.A1 T_ok rfl ?_
      refine RL.N1 ?_; (with_reducible repeat (first | refine QN.B1 ?_ | refine QN.N1 ?_))
      (with_reducible repeat (first | refine WP.S1 ?_ | refine WP.B1 ?_ | refine WP.R1 ?_))
      have hR7 : Ts m7 [] (.slice A5 (y :: r').length c5) (r'.reverse ++ [y]) := by
        have := hO7.sl (M := []) (by simp)
        rw [List.reverse_cons] at this; exact this
      obtain ⟨ad5, rfl, hy⟩ := hR7.cell r'.length (by simp)
      have hyy : (r'.reverse ++ [y])[r'.length]'(by simp) = y := by simp
      rw [hyy] at hy
      refine WP.drawQ (fun m' => m' = m7) [] (by kernel_rfl) rfl (by with_reducible repeat (first | exact PanicOk.body | refine PanicOk.then_ ?_ | refine PanicOk.block_ ?_)) (fun hQ => ?_)
      refine RH.pure T_ok hQ [0, 1] (by kernel_rfl) rfl ?_
      refine RH.eqv (v' := .bool true) (congrArg _ (decide_eq_true (by omega))) ?_
      refine RH.pure T_ok hQ [2, 3, 4] (by kernel_rfl) rfl ?_
      refine RH.indexAddr T_ok hQ 5 (k := r'.length) rfl (by kernel_rfl) rfl rfl rfl rfl rfl rfl rfl (by omega) rfl ?_
      refine RH.pure T_ok hQ [6] (by kernel_rfl) rfl ?_
      refine RH.load T_ok hQ 7 (fun m' hm' => by rw [hm']; exact hy 0 _ rfl) rfl (by kernel_rfl) rfl rfl rfl rfl ?_
      refine RH.pure T_ok hQ [8] (by kernel_rfl) rfl ?_
      refine RH.load T_ok hQ 9 (fun m' hm' => by rw [hm']; exact hB7.cell 0 rfl) rfl (by kernel_rfl) rfl rfl rfl rfl ?_
      refine RH.pure T_ok hQ [10] (by kernel_rfl) rfl ?_
      by_cases h1 : y.c = x.c
      · refine RH.eqv (v' := .bool true) (congrArg _ (by rw [deq]; exact decide_eq_true h1)) ?_
        refine RH.pure T_ok hQ [11, 12, 13, 14] (by kernel_rfl) rfl ?_
        refine RH.indexAddr T_ok hQ 15 (k := r'.length) rfl (by kernel_rfl) rfl rfl rfl rfl rfl rfl rfl (by omega) rfl ?_
        refine RH.pure T_ok hQ [16] (by kernel_rfl) rfl ?_
        refine RH.load T_ok hQ 17 (fun m' hm' => by rw [hm']; exact hy 2 _ rfl) rfl (by kernel_rfl) rfl rfl rfl rfl ?_
        refine RH.pure T_ok hQ [18] (by kernel_rfl) rfl ?_
        refine RH.load T_ok hQ 19 (fun m' hm' => by rw [hm']; exact hB7.cell 1 rfl) rfl (by kernel_rfl) rfl rfl rfl rfl ?_
        refine RH.pure T_ok hQ [20] (by kernel_rfl) rfl ?_
        by_cases h2 : y.t = x.f
        · refine RH.eqv (v' := .bool true) (congrArg _ (by rw [deq]; exact decide_eq_true h2)) ?_
          refine RH.pure T_ok hQ [21, 22, 23, 24] (by kernel_rfl) rfl ?_
          refine RH.indexAddr T_ok hQ 25 (k := r'.length) rfl (by kernel_rfl) rfl rfl rfl rfl rfl rfl rfl (by omega) rfl ?_
          refine RH.pure T_ok hQ [26] (by kernel_rfl) rfl ?_
          refine RH.load T_ok hQ 27 (fun m' hm' => by rw [hm']; exact hy 3 _ rfl) rfl (by kernel_rfl) rfl rfl rfl rfl ?_
          refine RH.pure T_ok hQ [28] (by kernel_rfl) rfl ?_
          refine RH.load T_ok hQ 29 (fun m' hm' => by rw [hm']; exact hB7.cell 3 rfl) rfl (by kernel_rfl) rfl rfl rfl rfl ?_
          refine RH.pure T_ok hQ [30] (by kernel_rfl) rfl ?_
          by_cases h3 : y.n = x.n
          · refine RH.eqv (v' := .bool true) (congrArg _ (by rw [deq]; exact decide_eq_true h3)) ?_
            refine RH.pure T_ok hQ [31] (by kernel_rfl) rfl ?_
            refine RH.done (by kernel_rfl) (fun _ => ?_)
            (with_reducible repeat (first | refine QN.B1 ?_ | refine QN.N1 ?_))
            refine WP.condT rfl ?_
            have hO8 : Ev.Own m7 S 53 4 (.slice (some ad5) (y :: r').length c5) (y :: r').length ((r'.reverse ++ [y]).flatMap tC) := by
              have := hO7; rw [List.reverse_cons] at this; exact this
            obtain ⟨g, cap, cur, hv8, hB8, rfl, hj8, hset⟩ := hO8.putN (j := r'.length * 4 + 2) (by rw [hrl]; omega)
            injection hv8 with hv8 hv8'
            injection hv8 with hv8
            subst hv8
            (with_reducible repeat (first | refine WP.S1 ?_ | refine WP.B1 ?_ | refine WP.R1 ?_))
            refine RL.A1 T_ok rfl ?_
            refine RL.load T_ok rfl rfl rfl (hB7.cell 2 rfl) rfl ?_
            refine RL.indexAddr (k := r'.length) T_ok rfl rfl rfl rfl rfl rfl rfl (by omega) rfl ?_
            refine RL.eqv (v' := .pointer (some ⟨g, r'.length * 4, none⟩)) (congrArg (fun q => Value.pointer (some q)) (by rw [add_block]; show (⟨g, 0 + r'.length * 4, none⟩ : Addr) = _; rw [Nat.zero_add])) ?_
            refine RL.A1 T_ok rfl ?_
            refine RL.store T_ok hB8 (i := r'.length * 4 + 2) (v := .int .u64 x.t) hj8 rfl rfl rfl rfl rfl rfl ?_
            intro m9 hC9
            have hO9 := hset m9 _ hC9
            rw [show r'.length * 4 + 2 = r'.reverse.length * 4 + 2 by rw [List.length_reverse], tsC_setT, ← List.reverse_cons] at hO9
            have htj : tj (y :: r') x = { y with t := x.t } :: r' := by rw [tj_cons, if_pos ⟨h1, h2, h3⟩]
            refine RL.N1 ?_; (with_reducible repeat (first | refine QN.B1 ?_ | refine QN.N1 ?_ | refine WP.S1 ?_ | refine WP.B1 ?_ | refine WP.R1 ?_))
            refine RL.A1 T_ok rfl ?_
            refine RL.N1 ?_; (with_reducible repeat (first | refine QN.B1 ?_ | refine QN.N1 ?_ | refine WP.S1 ?_ | refine WP.B1 ?_ | refine WP.R1 ?_))
            refine WP.ret ?_; (with_reducible repeat (first | refine QN.tr ?_ | refine QN.br ?_))
            refine QN.ret1 rfl rfl ⟨_, rfl, [g], ?_, (hE7.mono (by simp)).trans hC9.ext (fun k hk => .inl hk), FpNew.refl _ _⟩
            rw [htj]; exact hO9
          · refine RH.eqv (v' := .bool false) (congrArg _ (by rw [deq]; exact decide_eq_false h3)) ?_
            refine RH.pure T_ok hQ [31] (by kernel_rfl) rfl ?_
            refine RH.done (by kernel_rfl) (fun _ => ?_)
            (with_reducible repeat (first | refine QN.B1 ?_ | refine QN.N1 ?_))
            refine WP.condF rfl ?_
            refine WP.skip ?_
            exact QN.cutEnd () (Sub.C1 rfl (Sub.C1 rfl Sub.nil)) ⟨rfl, by rw [tj_cons, if_neg (fun hh => h3 hh.2.2)]⟩
        · refine RH.eqv (v' := .bool false) (congrArg _ (by rw [deq]; exact decide_eq_false h2)) ?_
          refine RH.pure T_ok hQ [21, 22, 23, 24, 25, 26, 27, 28, 29, 30, 31] (by kernel_rfl) rfl ?_
          refine RH.done (by kernel_rfl) (fun _ => ?_)
          (with_reducible repeat (first | refine QN.B1 ?_ | refine QN.N1 ?_))
          refine WP.condF rfl ?_
          refine WP.skip ?_
          exact QN.cutEnd () (Sub.C1 rfl (Sub.C1 rfl Sub.nil)) ⟨rfl, by rw [tj_cons, if_neg (fun hh => h2 hh.2.1)]⟩
      · refine RH.eqv (v' := .bool false) (congrArg _ (by rw [deq]; exact decide_eq_false h1)) ?_
        refine RH.pure T_ok hQ [11, 12, 13, 14, 15, 16, 17, 18, 19, 20, 21, 22, 23, 24, 25, 26, 27, 28, 29, 30, 31] (by kernel_rfl) rfl ?_
        refine RH.done (by kernel_rfl) (fun _ => ?_)
        (with_reducible repeat (first | refine QN.B1 ?_ | refine QN.N1 ?_))
        refine WP.condF rfl ?_
        refine WP.skip ?_
        exact QN.cutEnd () (Sub.C1 rfl (Sub.C1 rfl Sub.nil)) ⟨rfl, by rw [tj_cons, if_neg (fun hh => h1 hh.1)]⟩
  · rintro _ mc ⟨rfl, htj⟩
    (with_reducible repeat (first | refine QN.B1 ?_ | refine QN.N1 ?_))
    (with_reducible repeat (first | refine WP.S1 ?_ | refine WP.B1 ?_ | refine WP.R1 ?_))
    refine RL.A1 T_ok rfl ?_
    refine RL.loadAgg T_ok (tC x) rfl rfl rfl (fun j u hu => by rw [add_block]; exact hB7.cell _ (by simpa using hu)) rfl ?_
    refine RL.append1 T_ok [.tmp 49] hO7 (us := [tV x]) (tC x) rfl rfl rfl rfl rfl rfl rfl rfl rfl (by simp [tV, tC, Value.cells]) (by simp [tV, Value.cells]) (tC_one x) (by unfold maxLen; omega) (by show (_ + 1) * 32 ≤ _; omega) ?_
    intro v8 m8 S8 hO8 hE8 hF8
    refine ⟨_, rfl, ?_⟩
    refine RL.A1 T_ok rfl ?_
    refine RL.N1 ?_; (with_reducible repeat (first | refine QN.B1 ?_ | refine QN.N1 ?_ | refine WP.S1 ?_ | refine WP.B1 ?_ | refine WP.R1 ?_))
    refine WP.ret ?_; (with_reducible repeat (first | refine QN.tr ?_ | refine QN.br ?_))
    refine QN.ret1 rfl rfl ⟨_, rfl, S8, ?_, (hE7.mono (by simp)).trans hE8 (fun k hk => .inl hk), hF8.trans' hE7⟩
    rw [htj, List.reverse_cons, ← tsC_app]
    exact hO8
end Go.Proofs.YtmjpcaiehfimgaaDoor
end
section
namespace Go.Proofs.YtmjpcaiehfimgaaDoor
open Go.RowKit Go.Ev Go.Ids
def Swp (mB mZ : World) (Z : List Nat) (m : World) (b5 b6 b7 : Nat) (P : List Trn) (c0 a : Nat) (op out : List Trn) : Prop :=
  Swept P c0 a op out ∧ Ext mB [] m ∧ ∃ S5 S6 v5 v6, Blk m b5 24 [v5] ∧ Blk m b6 24 [v6] ∧ Blk m b7 22 [.int .u64 a] ∧
    Ev.Own m S5 53 4 v5 out.length (out.reverse.flatMap tC) ∧ Ev.Own m S6 53 4 v6 op.length (op.flatMap tC) ∧
    (∀ k ∈ S5, mB.heap.size ≤ k ∧ k ≠ b5 ∧ k ≠ b6 ∧ k ≠ b7 ∧ k ∉ S6) ∧ (∀ k ∈ S6, mB.heap.size ≤ k ∧ k ≠ b5 ∧ k ≠ b6 ∧ k ≠ b7) ∧
    ∀ k ∈ Z, k < m.heap.size ∧ m.heap[k]? = mZ.heap[k]? ∧ k ≠ b5 ∧ k ≠ b6 ∧ k ≠ b7 ∧ k ∉ S5 ∧ k ∉ S6
theorem Swp.ext {mB mZ m m' : World} {Z : List Nat} {b5 b6 b7 : Nat} {P : List Trn} {c0 a : Nat} {op out : List Trn} (h : Swp mB mZ Z m b5 b6 b7 P c0 a op out) (hE : Ext m [] m') : Swp mB mZ Z m' b5 b6 b7 P c0 a op out := by
  obtain ⟨h0, h1, S5, S6, v5, v6, g1, g2, g3, g4, g5, g6, g7, g8⟩ := h
  exact ⟨h0, h1.trans hE (by simp), S5, S6, v5, v6, g1.ext hE (by simp), g2.ext hE (by simp), g3.ext hE (by simp), g4.ext hE (by simp), g5.ext hE (by simp), g6, g7, fun k hk => by
    obtain ⟨z1, z2, z3⟩ := g8 k hk
    exact ⟨Nat.lt_of_lt_of_le z1 hE.size, (hE.far k z1 (by simp)).trans z2, z3⟩⟩
theorem tEnd_succ (u : Nat) (l : List Trn) (j : Nat) (h : j < l.length) : tEnd u (l.take (j + 1)) = min (tEnd u (l.take j)) l[j].t := by
  unfold tEnd
  rw [List.take_succ_eq_append_getElem h, List.foldl_append]; rfl
theorem tTop_succ (l : List Trn) (j : Nat) (h : j < l.length) : tTop (l.take (j + 1)) = max (tTop (l.take j)) l[j].n := by
  unfold tTop
  rw [List.take_succ_eq_append_getElem h, List.foldl_append]; rfl
theorem minV (a b : Nat) : Value.int .u64 (if (b : Int) < (a : Int) then (b : Int) else (a : Int)) = .int .u64 (min a b : Nat) := congrArg _ (by split <;> omega)
theorem maxV (a b : Nat) : Value.int .u64 (if (b : Int) > (a : Int) then (b : Int) else (a : Int)) = .int .u64 (max a b : Nat) := congrArg _ (by split <;> omega)
theorem tj_len (r : List Trn) (x : Trn) : (tj r x).length ≤ r.length + 1 := by
  cases r with
  | nil => simp [tj]
  | cons y r => rw [tj_cons]; split <;> simp
theorem filter_drop {op : List Trn} {u : Nat} (h : tEnd u op < u) : (op.filter fun x => decide (¬ x.t ≤ tEnd u op)).length + 1 ≤ op.length := by
  obtain ⟨-, -, h3⟩ := tEnd_spec op u
  rcases h3 with h3 | ⟨x, hx, h3⟩
  · omega
  · generalize tEnd u op = e at *
    subst h3
    induction op with
    | nil => cases hx
    | cons y l ih =>
      rw [List.filter_cons]
      rcases List.mem_cons.1 hx with rfl | hx
      · rw [if_neg (by simp)]
        have := List.length_filter_le (fun z : Trn => decide (¬ z.t ≤ x.t)) l
        simp only [List.length_cons]; omega
      · have h1 := ih hx
        split <;> simp only [List.length_cons] <;> omega
theorem flush_c (mB mZ : World) (Z : List Nat) (m : World) (b5 b6 b7 : Nat) (hb : b5 ≠ b6 ∧ b5 ≠ b7 ∧ b6 ≠ b7 ∧ mB.heap.size ≤ b5 ∧ mB.heap.size ≤ b6 ∧ mB.heap.size ≤ b7) (P : List Trn) (c0 a : Nat) (op out : List Trn) (u : Nat) (hu : u ≤ 9007199254740992)
    (h : Swp mB mZ Z m b5 b6 b7 P c0 a op out) (hl : out.length + op.length < 1000000000) (hau : a ≤ u) :
    FnR Tryd.prog 35 [.int .u64 c0, .int .u64 u, .pointer (some ⟨b6, 0, none⟩), .pointer (some ⟨b7, 0, none⟩), .pointer (some ⟨b5, 0, none⟩)] m fun _ m' => ∃ a' op' out', Swp mB mZ Z m' b5 b6 b7 P c0 a' op' out' ∧ (op' = [] ∨ a' = u) ∧ a' ≤ u ∧ out'.length + op'.length ≤ out.length + op.length + 1 := by
  obtain ⟨hb1, hb2, hb3, hb4, hb5, hb6⟩ := hb
  refine FnE.enter ⟨_, Tryd.func35, by kernel_rfl, by kernel_rfl⟩ Tryd.func35 rfl rfl ?_
  refine (WP.B1 ?_)
  refine (WP.loop (X := Nat × List Trn × List Trn) (fun _ => [(0, .int .u64 c0), (1, .int .u64 u), (2, .pointer (some ⟨b6, 0, none⟩)), (3, .pointer (some ⟨b7, 0, none⟩)), (4, .pointer (some ⟨b5, 0, none⟩))])
    (fun x m' => x.1 ≤ u ∧ (x.2.2.length + x.2.1.length ≤ out.length + op.length ∨ (x.1 = u ∧ x.2.2.length + x.2.1.length ≤ out.length + op.length + 1)) ∧ Swp mB mZ Z m' b5 b6 b7 P c0 x.1 x.2.1 x.2.2) (fun x => u - x.1) (a, op, out)
    (Sub.C1 rfl (Sub.C1 rfl (Sub.C1 rfl (Sub.C1 rfl (Sub.C1 rfl Sub.nil))))) ⟨hau, .inl (Nat.le_refl _), h⟩ ?_)
  rintro ⟨a1, op1, out1⟩ m1 ⟨ha1, hl1, hsw, hE1, S5, S6, v5, v6, g1, g2, g3, g4, g5, g6, g7, g8⟩
  simp only at ha1 hl1 hsw g3 g4 g5
  obtain ⟨A6, c6, rfl, _⟩ := g5.shape
  (with_reducible repeat (first | refine WP.S1 ?_ | refine WP.B1 ?_ | refine WP.R1 ?_))
  refine RL.load T_ok rfl rfl rfl (g2.cell 0 rfl) rfl ?_
  refine RL.pure T_ok 1 rfl ?_
  rcases hop : op1 with _ | ⟨y, op2⟩
  · subst hop
    refine RL.A1 T_ok rfl ?_
    refine RL.N1 ?_; (with_reducible repeat (first | refine QN.B1 ?_ | refine QN.N1 ?_ | refine WP.S1 ?_ | refine WP.B1 ?_ | refine WP.R1 ?_))
    refine WP.condF rfl ?_
    refine WP.exit ?_; (with_reducible repeat (first | refine QN.tx ?_ | refine QN.bx ?_ | refine QN.block_far rfl ?_ | refine QN.B1 ?_ | refine QN.N1 ?_)); (with_reducible repeat (first | refine WP.S1 ?_ | refine WP.B1 ?_ | refine WP.R1 ?_))
    exact QN.end0 rfl ⟨_, rfl, a1, [], out1, ⟨hsw, hE1, S5, S6, v5, _, g1, g2, g3, g4, g5, g6, g7, g8⟩, .inl rfl, ha1, by omega⟩
  have hne : op1 ≠ [] := by rw [hop]; simp
  have hyc : y.c = c0 := (hsw.opens y (by rw [hop]; simp)).2.1
  rw [← hop]
  have hpos : 0 < op1.length := by rw [hop]; simp
  have hR6 : Ts m1 [] (.slice A6 op1.length c6) op1 := g5.sl (by simp)
  obtain ⟨ad, rfl, hx⟩ := hR6.cell 0 hpos
  have hx0 : op1[0] = y := by simp [hop]
  rw [hx0] at hx
  refine RL.pure T_ok 1 rfl ?_
  refine RL.eqv (v' := .bool true) (congrArg _ (decide_eq_true (by omega))) ?_
  refine RL.pure T_ok 1 rfl ?_
  refine RL.load T_ok rfl rfl rfl (g2.cell 0 rfl) rfl ?_
  refine RL.indexAddr (k := 0) T_ok rfl rfl rfl rfl rfl rfl rfl hpos rfl ?_
  refine RL.pure T_ok 1 rfl ?_
  refine RL.load T_ok rfl rfl rfl (hx 0 _ rfl) rfl ?_
  refine RL.pure T_ok 2 rfl ?_
  refine RL.eqv (v' := .bool true) (congrArg _ (by rw [deq]; exact decide_eq_true hyc)) ?_
  refine RL.pure T_ok 2 rfl ?_
  refine RL.load T_ok rfl rfl rfl (g3.cell 0 rfl) rfl ?_
  by_cases hau1 : a1 < u
  rotate_left
  · refine RL.pure T_ok 2 rfl ?_
    refine RL.eqv (v' := .bool false) (congrArg _ (by rw [dlt]; exact decide_eq_false hau1)) ?_
    refine RL.A1 T_ok rfl ?_
    refine RL.N1 ?_; (with_reducible repeat (first | refine QN.B1 ?_ | refine QN.N1 ?_ | refine WP.S1 ?_ | refine WP.B1 ?_ | refine WP.R1 ?_))
    refine WP.condF rfl ?_
    refine WP.exit ?_; (with_reducible repeat (first | refine QN.tx ?_ | refine QN.bx ?_ | refine QN.block_far rfl ?_ | refine QN.B1 ?_ | refine QN.N1 ?_)); (with_reducible repeat (first | refine WP.S1 ?_ | refine WP.B1 ?_ | refine WP.R1 ?_))
    exact QN.end0 rfl ⟨_, rfl, a1, op1, out1, ⟨hsw, hE1, S5, S6, v5, _, g1, g2, g3, g4, g5, g6, g7, g8⟩, .inr (by omega), ha1, by omega⟩
  have hl1 : out1.length + op1.length ≤ out.length + op.length := by rcases hl1 with h1 | h1 <;> omega
  obtain ⟨p1, p2, p3⟩ := hsw.piece hne hau1 hu
  refine RL.pure T_ok 2 rfl ?_
  refine RL.eqv (v' := .bool true) (congrArg _ (by rw [dlt]; exact decide_eq_true hau1)) ?_
  refine RL.A1 T_ok rfl ?_
  refine RL.N1 ?_; (with_reducible repeat (first | refine QN.B1 ?_ | refine QN.N1 ?_ | refine WP.S1 ?_ | refine WP.B1 ?_ | refine WP.R1 ?_))
  refine WP.condT rfl ?_
  refine WP.skip ?_; (with_reducible repeat (first | refine QN.B1 ?_ | refine QN.N1 ?_ | refine WP.S1 ?_ | refine WP.B1 ?_ | refine WP.R1 ?_))
  refine RL.A1 T_ok rfl ?_
  refine RL.N1 ?_; (with_reducible repeat (first | refine QN.B1 ?_ | refine QN.N1 ?_ | refine WP.S1 ?_ | refine WP.B1 ?_ | refine WP.R1 ?_))
  refine RL.load T_ok rfl rfl rfl (g2.cell 0 rfl) rfl ?_
  refine RL.A1 T_ok rfl ?_
  refine RL.N1 ?_; (with_reducible repeat (first | refine QN.B1 ?_ | refine QN.N1 ?_ | refine WP.S1 ?_ | refine WP.B1 ?_ | refine WP.R1 ?_))
  refine (WP.loop (X := Nat) (fun j => [(0, .int .u64 c0), (1, .int .u64 u), (2, .pointer (some ⟨b6, 0, none⟩)), (3, .pointer (some ⟨b7, 0, none⟩)), (4, .pointer (some ⟨b5, 0, none⟩)), (28, .slice (some ad) op1.length c6), (29, .int .i64 op1.length), (7, .int .u64 (tEnd u (op1.take j))), (8, .int .u64 (tTop (op1.take j))), (30, .int .i64 j)])
    (fun j m' => j ≤ op1.length ∧ Ext m1 [] m') (fun j => op1.length - j) 0
    (Sub.C1 rfl (Sub.C1 rfl (Sub.C1 rfl (Sub.C1 rfl (Sub.C1 rfl (Sub.C1 rfl (Sub.C1 rfl (Sub.C1 rfl (Sub.C1 rfl (Sub.C1 rfl Sub.nil)))))))))) ⟨by simp, Ext.refl _ _⟩ ?_)
  rintro j m2 ⟨hj, hE2⟩
  (with_reducible repeat (first | refine WP.S1 ?_ | refine WP.B1 ?_ | refine WP.R1 ?_))
  refine RL.A1 T_ok rfl ?_
  refine RL.N1 ?_; (with_reducible repeat (first | refine QN.B1 ?_ | refine QN.N1 ?_ | refine WP.S1 ?_ | refine WP.B1 ?_ | refine WP.R1 ?_))
  refine WP.cond rfl (fun hc => ?_) (fun hc => ?_)
  · have hc : j < op1.length := by have := of_decide_eq_true hc; omega
    obtain ⟨ad', had', hz⟩ := (hR6.ext0 hE2).cell j hc
    injection had' with had'
    subst had'
    refine WP.skip ?_; (with_reducible repeat (first | refine QN.B1 ?_ | refine QN.N1 ?_ | refine WP.S1 ?_ | refine WP.B1 ?_ | refine WP.R1 ?_))
    refine RL.indexAddr (k := j) T_ok rfl rfl rfl rfl rfl rfl rfl hc rfl ?_
    refine RL.loadAgg T_ok (tC op1[j]) rfl rfl rfl hz rfl ?_
    refine RL.alloc T_ok rfl rfl (fun b10 m3 hb10 hC3 => ⟨_, rfl, ?_⟩)
    refine RL.storeAgg T_ok (b := b10) (i := 0) (vs := tC op1[j]) (cs := [.int .u64 0, .int .u64 0, .int .u64 0, .int .u64 0]) hC3.blk rfl rfl rfl rfl rfl (by simp) (by simp [tC, Value.oneCell']) rfl ?_
    intro m4 hC4
    have hE4 : Ext m2 [] m4 := (hC3.new (by omega)).trans hC4.ext (fun q hq => .inr (by have h9 : q = b10 := (by simpa using hq); omega))
    have hB4 : Blk m4 b10 53 (tC op1[j]) := hC4.blk
    refine RL.N1 ?_; (with_reducible repeat (first | refine QN.B1 ?_ | refine QN.N1 ?_))
    (with_reducible repeat (first | refine WP.S1 ?_ | refine WP.B1 ?_ | refine WP.R1 ?_))
    refine WP.drawQ (fun m' => m' = m4) [] (by kernel_rfl) rfl (by with_reducible repeat (first | exact PanicOk.body | refine PanicOk.then_ ?_ | refine PanicOk.block_ ?_)) (fun hQ => ?_)
    refine RH.pure T_ok hQ [0, 1] (by kernel_rfl) rfl ?_
    refine RH.load T_ok hQ 2 (fun m' hm' => by rw [hm']; exact hB4.cell 2 rfl) rfl (by kernel_rfl) rfl rfl rfl rfl ?_
    refine RH.pure T_ok hQ [3] (by kernel_rfl) rfl ?_
    refine RH.eqv (v' := .int .u64 (tEnd u (op1.take (j + 1)))) (by rw [tEnd_succ u op1 j hc]; exact minV _ _) ?_
    refine RH.pure T_ok hQ [4, 5] (by kernel_rfl) rfl ?_
    refine RH.load T_ok hQ 6 (fun m' hm' => by rw [hm']; exact hB4.cell 3 rfl) rfl (by kernel_rfl) rfl rfl rfl rfl ?_
    refine RH.pure T_ok hQ [7] (by kernel_rfl) rfl ?_
    refine RH.eqv (v' := .int .u64 (tTop (op1.take (j + 1)))) (by rw [tTop_succ op1 j hc]; exact maxV _ _) ?_
    refine RH.pure T_ok hQ [8, 9] (by kernel_rfl) rfl ?_
    refine RH.done (by kernel_rfl) (fun _ => ?_)
    (with_reducible repeat (first | refine QN.B1 ?_ | refine QN.N1 ?_))
    (with_reducible repeat (first | refine WP.S1 ?_ | refine WP.B1 ?_ | refine WP.R1 ?_))
    refine RL.pure T_ok 1 rfl ?_
    refine RL.eqv (v' := .int .i64 ((j + 1 : Nat) : Int)) (congrArg _ (by rw [wrap_i64_in _ (by omega) (by omega)]; rfl)) ?_
    refine RL.A1 T_ok rfl ?_
    exact RL.N1 (QN.round (j + 1) (Sub.C1 rfl (Sub.C1 rfl (Sub.C1 rfl (Sub.C1 rfl (Sub.C1 rfl (Sub.C1 rfl (Sub.C1 rfl (Sub.C1 rfl (Sub.C1 rfl (Sub.C1 rfl Sub.nil)))))))))) ⟨by omega, hE2.trans hE4 (by simp)⟩ (by omega))
  · have hc : j = op1.length := by have := of_decide_eq_false hc; omega
    subst hc
    rw [List.take_length]
    have k1 := g1.ext hE2 (by simp)
    have k2 := g2.ext hE2 (by simp)
    have k3 := g3.ext hE2 (by simp)
    have k4 := g4.ext hE2 (by simp)
    have k5 := g5.ext hE2 (by simp)
    have hE12 := hE1.trans hE2 (by simp)
    have lt5 := k1.lt
    have lt6 := k2.lt
    have lt7 := k3.lt
    have ltS6 := k5.lt
    have htl := tj_len out1 ⟨c0, a1, tEnd u op1, tTop op1⟩
    refine WP.exit ?_; (with_reducible repeat (first | refine QN.tx ?_ | refine QN.bx ?_ | refine QN.block_far rfl ?_ | refine QN.B1 ?_ | refine QN.N1 ?_)); (with_reducible repeat (first | refine WP.S1 ?_ | refine WP.B1 ?_ | refine WP.R1 ?_))
    refine RL.load T_ok rfl rfl rfl (k1.cell 0 rfl) rfl ?_
    refine RL.A1 T_ok rfl ?_
    refine RL.load T_ok rfl rfl rfl (k3.cell 0 rfl) rfl ?_
    refine RL.A1 T_ok rfl ?_
    refine RL.eqv (v' := tV ⟨c0, a1, tEnd u op1, tTop op1⟩) rfl ?_
    refine RL.call (fi := []) (ca := []) rfl rfl rfl rfl (joined_c m2 S5 v5 out1 ⟨c0, a1, tEnd u op1, tTop op1⟩ k4 (by omega)) ?_
    rintro w5 m3 ⟨T5, hO3, hE3, hF3⟩
    refine ⟨_, rfl, ?_⟩
    have j5 : ∀ k ∈ T5, mB.heap.size ≤ k ∧ k ≠ b5 ∧ k ≠ b6 ∧ k ≠ b7 ∧ k ∉ S6 := fun k hk => by
      rcases hF3 k hk with h9 | h9
      · exact g6 k h9
      · have := hE12.size
        exact ⟨by omega, by omega, by omega, by omega, fun hh => by have := ltS6 k hh; omega⟩
    have q1 := k1.ext hE3 (fun hh => (g6 _ hh).2.1 rfl)
    have q2 := k2.ext hE3 (fun hh => (g6 _ hh).2.2.1 rfl)
    have q3 := k3.ext hE3 (fun hh => (g6 _ hh).2.2.2.1 rfl)
    have q5 := k5.ext hE3 (fun k hk hh => (g6 _ hh).2.2.2.2 hk)
    have hE13 := hE12.trans hE3 (fun k hk => .inr (g6 k hk).1)
    refine RL.store T_ok q1 (i := 0) (v := w5) (by simp) rfl rfl rfl rfl hO3.one rfl ?_
    intro m4 hC4
    have r1 : Blk m4 b5 24 [w5] := hC4.blk
    have r2 := q2.far hC4 (by omega)
    have r3 := q3.far hC4 (by omega)
    have r4 := hO3.ext hC4.ext (fun k hk hh => (j5 k hk).2.1 (by simpa using hh))
    have r5 := q5.ext hC4.ext (fun k hk hh => (g7 k hk).2.1 (by simpa using hh))
    have hE14 := hE13.trans hC4.ext (fun k hk => .inr (by have h9 : k = b5 := (by simpa using hk); omega))
    refine RL.N1 ?_; (with_reducible repeat (first | refine QN.B1 ?_ | refine QN.N1 ?_ | refine WP.S1 ?_ | refine WP.B1 ?_ | refine WP.R1 ?_))
    refine RL.A1 T_ok rfl ?_
    refine RL.store T_ok r3 (i := 0) (v := .int .u64 (tEnd u op1)) (by simp) rfl rfl rfl rfl rfl rfl ?_
    intro m5 hC5
    have t1 := r1.far hC5 (by omega)
    have t2 := r2.far hC5 (by omega)
    have t3 : Blk m5 b7 22 [.int .u64 (tEnd u op1)] := hC5.blk
    have t4 := r4.ext hC5.ext (fun k hk hh => (j5 k hk).2.2.2.1 (by simpa using hh))
    have t5 := r5.ext hC5.ext (fun k hk hh => (g7 k hk).2.2.2 (by simpa using hh))
    have hE15 := hE14.trans hC5.ext (fun k hk => .inr (by have h9 : k = b7 := (by simpa using hk); omega))
    refine RL.N1 ?_; (with_reducible repeat (first | refine QN.B1 ?_ | refine QN.N1 ?_ | refine WP.S1 ?_ | refine WP.B1 ?_ | refine WP.R1 ?_))
    refine RL.load T_ok rfl rfl rfl (t2.cell 0 rfl) rfl ?_
    refine RL.A1 T_ok rfl ?_
    refine RL.call (fi := []) (ca := []) rfl rfl rfl rfl (deleteT_c m5 S6 _ op1 t5 (by omega) 38 [.pointer (some ⟨b7, 0, none⟩)] (fun x => decide (x.t ≤ tEnd u op1)) (fun q => Blk q b7 22 [.int .u64 (tEnd u op1)]) t3 (fun q1 q2 hq hE => hq.ext hE (fun hh => (g7 _ hh).2.2.2 rfl)) (fun q1 x hq => del1_c q1 x b7 _ hq)) ?_
    rintro w6 m6 ⟨hO6, hE6⟩
    refine ⟨_, rfl, ?_⟩
    have hfe : (op1.filter fun x => !decide (x.t ≤ tEnd u op1)) = op1.filter fun x => decide (¬ x.t ≤ tEnd u op1) := List.filter_congr (fun x _ => by rw [decide_not])
    rw [hfe] at hO6
    have u1 := t1.ext hE6 (fun hh => (g7 _ hh).2.1 rfl)
    have u2 := t2.ext hE6 (fun hh => (g7 _ hh).2.2.1 rfl)
    have u3 := t3.ext hE6 (fun hh => (g7 _ hh).2.2.2 rfl)
    have u4 := t4.ext hE6 (fun k hk hh => (j5 k hk).2.2.2.2 hh)
    have hE16 := hE15.trans hE6 (fun k hk => .inr (g7 k hk).1)
    refine RL.store T_ok u2 (i := 0) (v := w6) (by simp) rfl rfl rfl rfl hO6.one rfl ?_
    intro m7 hC7
    have hE17 := hE16.trans hC7.ext (fun k hk => .inr (by have h9 : k = b6 := (by simpa using hk); omega))
    have hfl := List.length_filter_le (fun x : Trn => decide (¬ x.t ≤ tEnd u op1)) op1
    have hz8 : ∀ k ∈ Z, k < m7.heap.size ∧ m7.heap[k]? = mZ.heap[k]? ∧ k ≠ b5 ∧ k ≠ b6 ∧ k ≠ b7 ∧ k ∉ T5 ∧ k ∉ S6 := fun k hk => by
      obtain ⟨z1, z2, z3, z4, z5, z6, z7⟩ := g8 k hk
      have e2 := hE2.size
      have e3 := hE3.size
      have e4 := hC4.ext.size
      have e5 := hC5.ext.size
      have e6 := hE6.size
      have e7 := hC7.ext.size
      refine ⟨by omega, ?_, z3, z4, z5, fun hh => ?_, z7⟩
      · exact (hC7.far k (by omega)).trans ((hE6.far k (by omega) z7).trans ((hC5.far k (by omega)).trans ((hC4.far k (by omega)).trans ((hE3.far k (by omega) z6).trans ((hE2.far k (by omega) (by simp)).trans z2)))))
      · rcases hF3 k hh with h9 | h9
        · exact z6 h9
        · omega
    refine RL.N1 ?_
    (with_reducible repeat (first | refine QN.B1 ?_ | refine QN.N1 ?_))
    refine QN.round (tEnd u op1, op1.filter (fun x => decide (¬ x.t ≤ tEnd u op1)), tj out1 ⟨c0, a1, tEnd u op1, tTop op1⟩) (Sub.C1 rfl (Sub.C1 rfl (Sub.C1 rfl (Sub.C1 rfl (Sub.C1 rfl Sub.nil))))) ⟨p2, ?_, p3, hE17, T5, S6, w5, w6, u1.far hC7 (by omega), hC7.blk, u3.far hC7 (by omega), u4.ext hC7.ext (fun k hk hh => (j5 k hk).2.2.1 (by simpa using hh)), hO6.ext hC7.ext (fun k hk hh => (g7 k hk).2.2.1 (by simpa using hh)), j5, g7, hz8⟩ (by show u - tEnd u op1 < u - a1; omega)
    rcases Nat.lt_or_eq_of_le p2 with h9 | h9
    · have := filter_drop h9
      exact .inl (by simp only; omega)
    · exact .inr ⟨h9, by simp only; omega⟩
end Go.Proofs.YtmjpcaiehfimgaaDoor
end
section
namespace Go.Proofs.YtmjpcaiehfimgaaDoor
open Go.RowKit Go.Ev Go.Ids
def TurnsI (m : World) (b1 b2 b3 : Nat) (v : Value) (l : List Trn) (pre : List Trn) (a : World) : Prop :=
  ∃ S ov, Blk a b3 24 [ov] ∧ Ev.Own a S 53 4 ov pre.length (pre.flatMap tC) ∧ (∀ k ∈ S, m.heap.size ≤ k ∧ k ≠ b3 ∧ k ≠ b1 ∧ k ≠ b2) ∧ Ext m [] a ∧ TK b1 b2 v l 30 a
theorem TurnsI.kc {m a b : World} {b1 b2 b3 B : Nat} {v : Value} {l pre : List Trn} (h : TurnsI m b1 b2 b3 v l pre a) (hK : Kc B a b) (hB : m.heap.size ≤ B) : TurnsI m b1 b2 b3 v l pre b := by
  obtain ⟨S, ov, h1, h2, h3, h4, h5, h6, h7⟩ := h
  exact ⟨S, ov, h1.kc hK, h2.kc hK, h3, h4.of_kc hK hB, h5.kc hK, h6.kc hK, Sl.kc h7 hK⟩
def TMade (m : World) (r : Value) (L : List Trn) (m' : World) : Prop := ∃ S', Ev.Own m' S' 53 4 r L.length (L.flatMap tC) ∧ New m S' m'
theorem TMade.ext {m m' : World} {r : Value} {l : List Trn} (h : TMade m r l m') : Ext m [] m' := by obtain ⟨_, _, h⟩ := h; exact h.1
theorem TMade.ts {m m' : World} {r : Value} {l : List Trn} (h : TMade m r l m') : Ts m' [] r l := by obtain ⟨_, h, _⟩ := h; exact h.sl (by simp)
def TForm (l L : List Trn) : Prop := TCanon L ∧ (∀ c k, turnOf L c k = turnOf l c k) ∧ L.length ≤ 2 * l.length + 2
theorem turnsF_c (m : World) (v : Value) (l : List Trn) (h : Ts m [] v l) (hl : l.length < 200000000) :
    FnR Tryd.prog 17 [v] m fun r m' => ∃ L, TForm l L ∧ TMade m r L m' := by
  obtain ⟨A, c, rfl, _, _⟩ := h.shape
  refine FnE.enterM ⟨_, Tryd.func17, by kernel_rfl, by kernel_rfl⟩ Tryd.func17 rfl rfl ?_
  (with_reducible repeat (first | refine WP.S1 ?_ | refine WP.B1 ?_ | refine WP.R1 ?_))
  refine RL.A1 T_ok rfl ?_
  refine RL.N1 ?_; (with_reducible repeat (first | refine QN.B1 ?_ | refine QN.N1 ?_))
  (with_reducible repeat (first | refine WP.S1 ?_ | refine WP.B1 ?_ | refine WP.R1 ?_))
  refine RL.alloc T_ok rfl rfl (fun b3 m1 hb3 hC1 => ⟨_, rfl, ?_⟩)
  have hB1 : Blk m1 b3 24 [.slice none 0 0] := hC1.blk
  have hE1 : Ext m [] m1 := hC1.new (by omega)
  have s1 := hC1.size
  refine RL.N1 ?_; (with_reducible repeat (first | refine QN.B1 ?_ | refine QN.N1 ?_ | refine WP.S1 ?_ | refine WP.B1 ?_ | refine WP.R1 ?_))
  refine RL.A1 T_ok rfl ?_
  refine RL.call (fi := []) (ca := []) rfl rfl rfl rfl (rightsT_c m1 (.slice A l.length c) l 30) ?_
  rintro _ m2 ⟨b1, b2, rfl, g1, g2, hE2, hRK⟩
  refine ⟨_, rfl, ?_⟩
  have hRK := hRK (h.ext0 hE1)
  have hB2 := hB1.ext hE2 (by simp)
  have hEm := hE1.trans hE2 (by simp)
  have lb1 := hRK.1.lt
  have lb2 := hRK.2.1.lt
  have lb3 := hB2.lt
  refine RL.sub (e' := [(3, .pointer (some ⟨b3, 0, none⟩)), (13, .func (.func 49) #[] #[.pointer (some ⟨b1, 0, none⟩), .pointer (some ⟨b2, 0, none⟩)])]) (Sub.C1 rfl (Sub.C1 rfl Sub.nil)) ?_
  refine RL.N1 ?_; (with_reducible repeat (first | refine QN.B1 ?_ | refine QN.N1 ?_ | refine WP.S1 ?_ | refine WP.B1 ?_ | refine WP.R1 ?_))
  refine WP.rangeFunc (ps := [14]) (gf := 49) (lb := [.pointer (some ⟨b1, 0, none⟩), .pointer (some ⟨b2, 0, none⟩)]) (fun x : Trn => [tV x]) rfl (rightsT1_c m2 b1 b2 (.slice A l.length c) l (by omega) 30 Trn.right (fun m1 x => turn_c m1 x)) ⟨_, Tryd.func49, by kernel_rfl, by kernel_rfl⟩
    (TurnsI m b1 b2 b3 (.slice A l.length c) l) (fun _ _ _ => False) (fun pre a b hi hK => hi.kc hK hEm.size) (fun _ _ _ _ hi _ => hi) (fun pre a ⟨_, _, _, _, _, _, hk⟩ => hk)
    ⟨[], .slice none 0 0, hB2, Own.empty _ _ _ _, (by simp), hEm, hRK⟩
    (fun x => [(14, tV x), (3, .pointer (some ⟨b3, 0, none⟩)), (13, .func (.func 49) #[] #[.pointer (some ⟨b1, 0, none⟩), .pointer (some ⟨b2, 0, none⟩)])]) (fun x => rfl) (fun x => rfl)
    (fun x b4 => [(4, .pointer (some ⟨b4, 0, none⟩)), (3, .pointer (some ⟨b3, 0, none⟩))]) (fun pre x b4 a => Blk a b4 53 (tC x) ∧ TurnsI m b1 b2 b3 (.slice A l.length c) l pre a) (fun pre x y a b hi hK => ⟨hi.1.kc hK, hi.2.kc hK hEm.size⟩)
    ?_ ?_ ?_ ?_
  · -- the round's variable
    rintro lp pre x m3 hI hlen hsz
    refine WP.R1 ?_
    refine RL.alloc T_ok rfl rfl (fun b4 m4 hb4 hC4 => ⟨_, rfl, ?_⟩)
    have hE4 : Ext m3 [] m4 := hC4.new (by omega)
    refine RL.storeAgg T_ok (b := b4) (i := 0) (vs := tC x) (cs := [.int .u64 0, .int .u64 0, .int .u64 0, .int .u64 0]) hC4.blk rfl rfl rfl rfl rfl (by simp) (by simp [tC, Value.oneCell']) rfl ?_
    intro m5 hC5
    have hE5 : Ext m3 [] m5 := hE4.trans hC5.ext (fun q hq => .inr (by have h9 : q = b4 := (by simpa using hq); omega))
    exact RL.N1 (QN.asgEnd b4 (Sub.C1 rfl (Sub.C1 rfl Sub.nil)) hE5.kn0 ⟨hC5.blk, hI.kc hE5.kc hEm.size⟩)
  · -- one more
    rintro lp pre x b4 m3 ⟨hB4, S, ov, hB3, hO, hS, hE3, hRK3⟩ hlen hsz
    replace hlen : pre.length < l.length := hlen.2
    (with_reducible repeat (first | refine WP.S1 ?_ | refine WP.B1 ?_ | refine WP.R1 ?_))
    refine RL.load T_ok rfl rfl rfl (hB3.cell 0 rfl) rfl ?_
    refine RL.loadAgg T_ok (tC x) rfl rfl rfl (fun j u hu => by rw [add_block]; exact hB4.cell _ (by simpa using hu)) rfl ?_
    refine RL.append1 T_ok [.tmp 16] hO (us := [tV x]) (tC x) rfl rfl rfl rfl rfl rfl rfl rfl rfl (by simp [tV, tC, Value.cells]) (by simp [tV, Value.cells]) (tC_one x) (by unfold maxLen; omega) (by show (_ + 1) * 32 ≤ _; omega) ?_
    intro v4 m4 S4 hO4 hE4 hF4
    refine ⟨_, rfl, ?_⟩
    have hB34 := hB3.ext hE4 (fun hh => (hS _ hh).2.1 rfl)
    refine RL.store T_ok hB34 (i := 0) (v := v4) (by simp) rfl rfl rfl rfl hO4.one rfl ?_
    intro m5 hC5
    have l1 := hRK3.1.lt
    have l2 := hRK3.2.1.lt
    have l3 := hB3.lt
    have hS4 : ∀ k ∈ S4, m.heap.size ≤ k ∧ k ≠ b3 ∧ k ≠ b1 ∧ k ≠ b2 := fun k hk => by
      rcases hF4 k hk with h9 | h9
      · exact hS k h9
      · have := hE3.size; exact ⟨by omega, by omega, by omega, by omega⟩
    have hE5 : Ext m3 (b3 :: S) m5 := (hE4.mono (fun k hk _ => zO _ hk)).trans hC5.ext (fun k hk => .inl (by have h9 : k = b3 := (by simpa using hk); simp [h9]))
    have hE5m : Ext m [] m5 := hE3.trans hE5 (fun k hk => .inr (by
      rcases List.mem_cons.1 hk with rfl | hk
      · omega
      · exact (hS k hk).1))
    refine RL.N1 ?_
    (with_reducible repeat (first | refine QN.B1 ?_ | refine QN.N1 ?_))
    refine QN.rdNormal (hE5.kn (fun k hk _ _ => ?_)) ⟨S4, v4, hC5.blk, ?_, hS4, hE5m, hRK3.1.ext hE5 ?_, hRK3.2.1.ext hE5 ?_, h.ext0 hE5m⟩
    · rcases List.mem_cons.1 hk with rfl | hk
      · exact ⟨_, _, _, hB3⟩
      · exact hO.cells k hk
    · rw [List.length_append, List.flatMap_append]
      exact (hO4.ext hC5.ext (fun k hk => by have := (hS4 k hk).2.1; simpa using this))
    · intro hh
      rcases List.mem_cons.1 hh with h9 | h9
      · omega
      · exact (hS _ h9).2.2.1 rfl
    · intro hh
      rcases List.mem_cons.1 hh with h9 | h9
      · omega
      · exact (hS _ h9).2.2.2 rfl
  · -- sorted, then swept
    rintro D xs m3 hD rfl ⟨S, ov, hB3, hO, hS, hE3, _⟩ hk
    have hDm : m.heap.size ≤ D := Nat.le_trans hEm.size hD
    have hDlt : D < m3.heap.size := (Array.getElem?_eq_some_iff.1 hk).1
    have hDnS : D ∉ S := fun hh => by
      obtain ⟨c1, t1, z1, h9⟩ := hO.cells D hh
      rw [h9] at hk; cases hk
    have hxl : (l.filter Trn.right).length ≤ l.length := List.length_filter_le _ _
    (with_reducible repeat (first | refine WP.S1 ?_ | refine WP.B1 ?_ | refine WP.R1 ?_))
    (with_reducible repeat (first | refine QN.B1 ?_ | refine QN.N1 ?_))
    (with_reducible repeat (first | refine WP.S1 ?_ | refine WP.B1 ?_ | refine WP.R1 ?_))
    refine RL.load T_ok rfl rfl rfl (hB3.cell 0 rfl) rfl ?_
    refine RL.call (fi := []) (ca := []) rfl rfl rfl rfl (sortT_c m3 S ov _ hO (by omega)) ?_
    rintro _ m4 ⟨rfl, hE4, d, hperm, hsort, hO4⟩
    refine ⟨_, rfl, ?_⟩
    have hB4 := hB3.ext hE4 (fun hh => (hS _ hh).2.1 rfl)
    have hk4 : m4.heap[D]? = some (.deferred (some [])) := (hE4.far D hDlt hDnS).trans hk
    have hE4m : Ext m [] m4 := hE3.trans hE4 (fun k hk => .inr (hS k hk).1)
    have hlen' : d.length ≤ l.length := by rw [hperm.length_eq]; exact hxl
    have hdr : ∀ x ∈ d, x.right = true := fun x hx => (List.mem_filter.1 (hperm.mem_iff.1 hx)).2
    obtain ⟨A', c', rfl, hc'⟩ := hO4.shape
    have hR4 : Ts m4 [] (.slice A' d.length c') d := hO4.sl (by simp)
    have hDlt4 : D < m4.heap.size := (Array.getElem?_eq_some_iff.1 hk4).1
    refine RL.N1 ?_; (with_reducible repeat (first | refine QN.B1 ?_ | refine QN.N1 ?_ | refine WP.S1 ?_ | refine WP.B1 ?_ | refine WP.R1 ?_))
    refine RL.alloc T_ok rfl rfl (fun b5 m5 hb5 hC5 => ⟨_, rfl, ?_⟩)
    refine RL.alloc T_ok rfl rfl (fun b6 m6 hb6 hC6 => ⟨_, rfl, ?_⟩)
    have hE5 : Ext m4 [] m5 := hC5.new (by omega)
    have hE6 : Ext m5 [] m6 := hC6.new (by omega)
    have s5 := hC5.size
    have s6 := hC6.size
    have hX5 : Blk m6 b5 24 [.slice none 0 0] := Blk.ext hC5.blk hE6 (by simp)
    have hX6 : Blk m6 b6 24 [.slice none 0 0] := hC6.blk
    clear hC5 hC6
    refine RL.N1 ?_; (with_reducible repeat (first | refine QN.B1 ?_ | refine QN.N1 ?_ | refine WP.S1 ?_ | refine WP.B1 ?_ | refine WP.R1 ?_))
    refine RL.alloc T_ok rfl rfl (fun b7 m7 hb7 hC7 => ⟨_, rfl, ?_⟩)
    have hE7 : Ext m6 [] m7 := hC7.new (by omega)
    have s7 := hC7.size
    refine RL.store T_ok (b := b7) (i := 0) (v := .int .u64 0) (cs := [.int .u64 0]) hC7.blk (by simp) rfl rfl rfl rfl rfl rfl ?_
    intro m8 hC8
    have hE8 : Ext m6 [] m8 := hE7.trans hC8.ext (fun k hk => .inr (by have h9 : k = b7 := (by simpa using hk); omega))
    have hE48 : Ext m4 [] m8 := (hE5.trans hE6 (by simp)).trans hE8 (by simp)
    have hsw0 : Swp m4 m4 [] m8 b5 b6 b7 [] 0 0 [] [] := ⟨Swept.start 0 0, hE48, [], [], _, _, hX5.ext hE8 (by simp), hX6.ext hE8 (by simp), hC8.blk, Own.empty _ _ _ _, Own.empty _ _ _ _, by simp, by simp, by simp⟩
    have hbs : b5 ≠ b6 ∧ b5 ≠ b7 ∧ b6 ≠ b7 ∧ m4.heap.size ≤ b5 ∧ m4.heap.size ≤ b6 ∧ m4.heap.size ≤ b7 := ⟨by omega, by omega, by omega, by omega, by omega, by omega⟩
    clear hC7 hC8
    refine RL.N1 ?_; (with_reducible repeat (first | refine QN.B1 ?_ | refine QN.N1 ?_ | refine WP.S1 ?_ | refine WP.B1 ?_ | refine WP.R1 ?_))
    refine RL.A1 T_ok rfl ?_
    refine RL.N1 ?_; (with_reducible repeat (first | refine QN.B1 ?_ | refine QN.N1 ?_ | refine WP.S1 ?_ | refine WP.B1 ?_ | refine WP.R1 ?_))
    refine RL.load T_ok rfl rfl rfl ((hB4.ext hE48 (by simp)).cell 0 rfl) rfl ?_
    refine RL.A1 T_ok rfl ?_
    refine RL.N1 ?_; (with_reducible repeat (first | refine QN.B1 ?_ | refine QN.N1 ?_ | refine WP.S1 ?_ | refine WP.B1 ?_ | refine WP.R1 ?_))
    obtain ⟨fv, hfv⟩ : ∃ fv : Value, fv = .func (.func 35) #[] #[.pointer (some ⟨b6, 0, none⟩), .pointer (some ⟨b7, 0, none⟩), .pointer (some ⟨b5, 0, none⟩)] := ⟨_, rfl⟩
    refine (WP.loop (X := Nat × Nat × Nat × List Trn × List Trn) (fun x => [(22, .slice A' d.length c'), (23, .int .i64 d.length), (24, .int .i64 x.1), (5, .pointer (some ⟨b5, 0, none⟩)), (6, .pointer (some ⟨b6, 0, none⟩)), (7, .pointer (some ⟨b7, 0, none⟩)), (8, fv)])
      (fun x m' => x.1 ≤ d.length ∧ Swp m4 m4 [] m' b5 b6 b7 (d.take x.1) x.2.1 x.2.2.1 x.2.2.2.1 x.2.2.2.2 ∧ x.2.2.2.2.length + x.2.2.2.1.length ≤ 2 * x.1 ∧ ∀ y ∈ d.drop x.1, x.2.1 < y.c ∨ (x.2.1 = y.c ∧ x.2.2.1 ≤ y.f)) (fun x => d.length - x.1) (0, 0, 0, [], [])
      (Sub.C1 rfl (Sub.C1 rfl (Sub.C1 rfl (Sub.C1 rfl (Sub.C1 rfl (Sub.C1 rfl (Sub.C1 ?_ Sub.nil))))))) ⟨by simp, hsw0, by simp, fun y hy => .inl (by have := tright_iff.1 (hdr y (by simpa using hy)); show 0 < y.c; omega)⟩ ?_)
    · rw [hfv]; rfl
    rintro ⟨i, c0, a, op, out⟩ m9 ⟨hi, hsw, hln, hord⟩
    simp only at hi hsw hln hord
    (with_reducible repeat (first | refine WP.S1 ?_ | refine WP.B1 ?_ | refine WP.R1 ?_))
    refine RL.A1 T_ok rfl ?_
    refine RL.N1 ?_; (with_reducible repeat (first | refine QN.B1 ?_ | refine QN.N1 ?_ | refine WP.S1 ?_ | refine WP.B1 ?_ | refine WP.R1 ?_))
    refine WP.cond rfl (fun hc => ?_) (fun hc => ?_)
    · replace hc : i < d.length := by have := of_decide_eq_true hc; simp only at this; omega
      obtain ⟨ad, rfl, hx⟩ := (hR4.ext0 hsw.2.1).cell i hc
      obtain ⟨x, hxe⟩ : ∃ x, d[i] = x := ⟨_, rfl⟩
      have hxr : x.right = true := by rw [← hxe]; exact hdr _ (List.getElem_mem _)
      have gx := tright_iff.1 hxr
      have hxo : c0 < x.c ∨ (c0 = x.c ∧ a ≤ x.f) := hord x (by rw [← hxe, List.drop_eq_getElem_cons hc]; exact zS ..)
      have hsnext : ∀ y ∈ d.drop (i + 1), x.c < y.c ∨ (x.c = y.c ∧ x.f ≤ y.f) := fun y hy => by
        obtain ⟨q, hq, rfl⟩ := List.mem_iff_getElem.1 hy
        rw [List.getElem_drop, ← hxe]
        rw [List.length_drop] at hq
        exact List.pairwise_iff_getElem.1 hsort i (i + 1 + q) hc (by omega) (by omega)
      have htake : d.take (i + 1) = d.take i ++ [x] := by rw [List.take_succ_eq_append_getElem hc, hxe]
      rw [hxe] at hx
      refine WP.skip ?_; (with_reducible repeat (first | refine QN.B1 ?_ | refine QN.N1 ?_ | refine WP.S1 ?_ | refine WP.B1 ?_ | refine WP.R1 ?_))
      refine RL.indexAddr (k := i) T_ok rfl rfl rfl rfl rfl rfl rfl hc rfl ?_
      refine RL.loadAgg T_ok (tC x) rfl rfl rfl hx rfl ?_
      refine RL.alloc T_ok rfl rfl (fun b10 m10 hb10 hC10 => ⟨_, rfl, ?_⟩)
      refine RL.storeAgg T_ok (b := b10) (i := 0) (vs := tC x) (cs := [.int .u64 0, .int .u64 0, .int .u64 0, .int .u64 0]) hC10.blk rfl rfl rfl rfl rfl (by simp) (by simp [tC, Value.oneCell']) rfl ?_
      intro m11 hC11
      have hE11 : Ext m9 [] m11 := (hC10.new (by omega)).trans hC11.ext (fun q hq => .inr (by have h9 : q = b10 := (by simpa using hq); omega))
      have hB11 : Blk m11 b10 53 (tC x) := hC11.blk
      have hswZ : Swp m4 m11 [b10] m11 b5 b6 b7 (d.take i) c0 a op out := by
        obtain ⟨y0, y1, S5, S6, v5, v6, g1, g2, g3, g4, g5, g6, g7, _⟩ := hsw
        refine ⟨y0, y1.trans hE11 (by simp), S5, S6, v5, v6, g1.ext hE11 (by simp), g2.ext hE11 (by simp), g3.ext hE11 (by simp), g4.ext hE11 (by simp), g5.ext hE11 (by simp), g6, g7, fun k hk => ?_⟩
        have hk : k = b10 := by simpa using hk
        subst hk
        have e5 := g1.lt
        have e6 := g2.lt
        have e7 := g3.lt
        exact ⟨hB11.lt, rfl, by omega, by omega, by omega, fun hh => by have := g4.lt _ hh; omega, fun hh => by have := g5.lt _ hh; omega⟩
      clear hsw hC10 hC11
      refine RL.N1 ?_; (with_reducible repeat (first | refine QN.B1 ?_ | refine QN.N1 ?_))
      refine WP.cut (X := Nat × List Trn × List Trn) (fun _ => [(22, .slice (some ad) d.length c'), (23, .int .i64 d.length), (24, .int .i64 i), (5, .pointer (some ⟨b5, 0, none⟩)), (6, .pointer (some ⟨b6, 0, none⟩)), (7, .pointer (some ⟨b7, 0, none⟩)), (8, fv), (10, .pointer (some ⟨b10, 0, none⟩))])
        (fun q m' => Swp m4 m11 [b10] m' b5 b6 b7 (d.take i) c0 q.1 q.2.1 q.2.2 ∧ q.2.2.length + q.2.1.length ≤ 2 * i + 1 ∧ (q.2.1 = [] ∨ c0 = x.c ∧ q.1 = x.f) ∧ (c0 < x.c ∨ c0 = x.c ∧ q.1 ≤ x.f)) ?_ ?_
      · have hsw1 := hswZ
        obtain ⟨y0, y1, S5, S6, v5, v6, g1, g2, g3, g4, g5, g6, g7, g8⟩ := hswZ
        obtain ⟨A6, c6, rfl, _⟩ := g5.shape
        (with_reducible repeat (first | refine WP.S1 ?_ | refine WP.B1 ?_ | refine WP.R1 ?_))
        refine RL.load T_ok rfl rfl rfl (g2.cell 0 rfl) rfl ?_
        refine RL.pure T_ok 1 rfl ?_
        rcases hop : op with _ | ⟨y, op2⟩
        · subst hop
          refine RL.A1 T_ok rfl ?_
          refine RL.N1 ?_; (with_reducible repeat (first | refine QN.B1 ?_ | refine QN.N1 ?_))
          refine WP.condF rfl ?_
          refine WP.skip ?_
          exact QN.cutEnd (a, [], out) (Sub.C1 rfl (Sub.C1 rfl (Sub.C1 rfl (Sub.C1 rfl (Sub.C1 rfl (Sub.C1 rfl (Sub.C1 rfl (Sub.C1 rfl Sub.nil)))))))) ⟨hsw1, by show out.length + 0 ≤ _; simp only [List.length_nil] at hln; omega, .inl rfl, hxo⟩
        have hy0 := y0.opens y (by rw [hop]; simp)
        have gy := tright_iff.1 hy0.1
        rw [← hop]
        have hpos : 0 < op.length := by rw [hop]; simp
        have hR6 : Ts m11 [] (.slice A6 op.length c6) op := g5.sl (by simp)
        obtain ⟨ad6, rfl, hz⟩ := hR6.cell 0 hpos
        have hz0 : op[0] = y := by simp [hop]
        rw [hz0] at hz
        refine RL.pure T_ok 1 rfl ?_
        refine RL.eqv (v' := .bool true) (congrArg _ (decide_eq_true (by omega))) ?_
        refine RL.N1 ?_; (with_reducible repeat (first | refine QN.B1 ?_ | refine QN.N1 ?_))
        refine WP.condT rfl ?_
        (with_reducible repeat (first | refine WP.S1 ?_ | refine WP.B1 ?_ | refine WP.R1 ?_))
        refine RL.pure T_ok 1 rfl ?_
        refine RL.load T_ok rfl rfl rfl (hB11.cell 1 rfl) rfl ?_
        refine RL.A1 T_ok rfl ?_
        refine RL.N1 (QN.N1 ?_)
        refine WP.cut (X := Unit) (fun _ => [(22, .slice (some ad) d.length c'), (23, .int .i64 d.length), (24, .int .i64 i), (5, .pointer (some ⟨b5, 0, none⟩)), (6, .pointer (some ⟨b6, 0, none⟩)), (7, .pointer (some ⟨b7, 0, none⟩)), (8, fv), (10, .pointer (some ⟨b10, 0, none⟩)), (11, .int .u64 (if c0 = x.c then x.f else 9007199254740992 : Nat))]) (fun _ m' => m' = m11) ?_ ?_
        · refine WP.S1 ?_
          refine WP.calm ?_
          refine WP.drawQ (fun m' => m' = m11) [] (by kernel_rfl) rfl PanicOk.calm (fun hQ => ?_)
          refine RH.load T_ok hQ 0 (fun m' hm' => by rw [hm']; exact g2.cell 0 rfl) rfl (by kernel_rfl) rfl rfl rfl rfl ?_
          refine RH.indexAddr T_ok hQ 1 (k := 0) rfl (by kernel_rfl) rfl rfl rfl rfl rfl rfl rfl hpos rfl ?_
          refine RH.pure T_ok hQ [2] (by kernel_rfl) rfl ?_
          refine RH.load T_ok hQ 3 (fun m' hm' => by rw [hm']; exact hz 0 _ rfl) rfl (by kernel_rfl) rfl rfl rfl rfl ?_
          refine RH.pure T_ok hQ [4] (by kernel_rfl) rfl ?_
          refine RH.load T_ok hQ 5 (fun m' hm' => by rw [hm']; exact hB11.cell 0 rfl) rfl (by kernel_rfl) rfl rfl rfl rfl ?_
          refine RH.pure T_ok hQ [6] (by kernel_rfl) rfl ?_
          by_cases hcc : c0 = x.c
          · refine RH.eqv (v' := .bool false) (congrArg _ (by rw [bne_nat']; exact decide_eq_false (fun hh => hh (by rw [hy0.2.1]; exact hcc)))) ?_
            refine RH.done (by kernel_rfl) (fun _ => QN.calm ?_)
            refine QN.N1 ?_
            refine WP.condF rfl ?_
            refine WP.skip ?_
            rw [if_pos hcc]
            exact QN.cutEnd () (Sub.C1 rfl (Sub.C1 rfl (Sub.C1 rfl (Sub.C1 rfl (Sub.C1 rfl (Sub.C1 rfl (Sub.C1 rfl (Sub.C1 rfl (Sub.C1 rfl (Sub.nil)))))))))) rfl
          · refine RH.eqv (v' := .bool true) (congrArg _ (by rw [bne_nat']; exact decide_eq_true (fun hh => hcc (by rw [← hy0.2.1]; exact hh)))) ?_
            refine RH.done (by kernel_rfl) (fun _ => QN.calm ?_)
            refine QN.N1 ?_
            refine WP.condT rfl ?_
            (with_reducible repeat (first | refine WP.S1 ?_ | refine WP.B1 ?_ | refine WP.R1 ?_))
            refine RL.A1 T_ok rfl ?_
            rw [if_neg hcc]
            exact RL.N1 (QN.cutEnd () (Sub.C1 rfl (Sub.C1 rfl (Sub.C1 rfl (Sub.C1 rfl (Sub.C1 rfl (Sub.C1 rfl (Sub.C1 rfl (Sub.C1 rfl (Sub.C1 rfl (Sub.nil)))))))))) rfl)
        · rintro _ mc rfl
          have hu : (if c0 = x.c then x.f else 9007199254740992) ≤ 9007199254740992 := by split <;> omega
          have hau : a ≤ (if c0 = x.c then x.f else 9007199254740992) := by
            split
            · rcases hxo with h1 | ⟨_, h1⟩ <;> omega
            · have := hy0.2.2.2; omega
          generalize hug : (if c0 = x.c then x.f else 9007199254740992) = u at hu hau
          subst hfv
          (with_reducible repeat (first | refine WP.S1 ?_ | refine WP.B1 ?_ | refine WP.R1 ?_))
          refine RL.A1 T_ok rfl ?_
          refine RL.load T_ok rfl rfl rfl (g2.cell 0 rfl) rfl ?_
          refine RL.indexAddr (k := 0) T_ok rfl rfl rfl rfl rfl rfl rfl hpos rfl ?_
          refine RL.pure T_ok 1 rfl ?_
          refine RL.load T_ok rfl rfl rfl (hz 0 _ rfl) rfl ?_
          refine RL.eqv (v' := .int .u64 c0) (congrArg (fun (q : Nat) => Value.int .u64 q) hy0.2.1) ?_
          refine RL.A1 T_ok rfl ?_
          refine RL.call (fi := []) (ca := [.pointer (some ⟨b6, 0, none⟩), .pointer (some ⟨b7, 0, none⟩), .pointer (some ⟨b5, 0, none⟩)]) rfl rfl rfl rfl (flush_c m4 mc [b10] mc b5 b6 b7 hbs (d.take i) c0 a op out u hu hsw1 (by omega) hau) ?_
          rintro _ m12 ⟨a', op', out', hsw12, hend, ha', hlen12⟩
          refine ⟨_, rfl, ?_⟩
          refine RL.N1 ?_
          refine QN.cutEnd (a', op', out') (Sub.C1 rfl (Sub.C1 rfl (Sub.C1 rfl (Sub.C1 rfl (Sub.C1 rfl (Sub.C1 rfl (Sub.C1 rfl (Sub.C1 rfl (Sub.nil))))))))) ⟨hsw12, by show out'.length + op'.length ≤ 2 * i + 1; omega, ?_, ?_⟩
          · show op' = [] ∨ c0 = x.c ∧ a' = x.f
            by_cases hcc : c0 = x.c
            · rw [if_pos hcc] at hug
              rcases hend with h1 | h1
              · exact .inl h1
              · exact .inr ⟨hcc, by omega⟩
            · rw [if_neg hcc] at hug
              rcases hend with h1 | h1
              · exact .inl h1
              · refine .inl (List.eq_nil_iff_forall_not_mem.2 fun z hz => ?_)
                have h2 := hsw12.1.opens z hz
                have h3 := tright_iff.1 h2.1
                omega
          · show c0 < x.c ∨ c0 = x.c ∧ a' ≤ x.f
            by_cases hcc : c0 = x.c
            · rw [if_pos hcc] at hug
              exact .inr ⟨hcc, by omega⟩
            · rcases hxo with h1 | ⟨h1, _⟩
              · exact .inl h1
              · exact absurd h1 hcc
      · rintro ⟨a', op', out'⟩ m12 ⟨hsw12, hln12, hcz, hbz⟩
        simp only at hsw12 hln12 hcz hbz
        obtain ⟨y0, y1, S5, S6, v5, v6, g1, g2, g3, g4, g5, g6, g7, g8⟩ := hsw12
        obtain ⟨z1, z2, z3, z4, z5, z6, z7⟩ := g8 b10 (by simp)
        have hB12 : Blk m12 b10 53 (tC x) := z2.trans hB11
        (with_reducible repeat (first | refine WP.S1 ?_ | refine WP.B1 ?_ | refine WP.R1 ?_))
        refine RL.pure T_ok 1 rfl ?_
        refine RL.load T_ok rfl rfl rfl (hB12.cell 1 rfl) rfl ?_
        refine RL.store T_ok g3 (i := 0) (v := .int .u64 x.f) (by simp) rfl rfl rfl rfl rfl rfl ?_
        intro m13 hC13
        have h1 := g1.far hC13 (by omega)
        have h2 := g2.far hC13 (by omega)
        have h3 : Blk m13 b7 22 [.int .u64 x.f] := hC13.blk
        have h4 := g4.ext hC13.ext (fun k hk hh => (g6 k hk).2.2.2.1 (by simpa using hh))
        have h5 := g5.ext hC13.ext (fun k hk hh => (g7 k hk).2.2.2 (by simpa using hh))
        have hB13 := hB12.far hC13 (by omega)
        have hE13 := y1.trans hC13.ext (fun k hk => .inr (by have h9 : k = b7 := (by simpa using hk); omega))
        refine RL.N1 ?_; (with_reducible repeat (first | refine QN.B1 ?_ | refine QN.N1 ?_ | refine WP.S1 ?_ | refine WP.B1 ?_ | refine WP.R1 ?_))
        refine RL.load T_ok rfl rfl rfl (h2.cell 0 rfl) rfl ?_
        refine RL.loadAgg T_ok (tC x) rfl rfl rfl (fun j u hu => by rw [add_block]; exact hB13.cell _ (by simpa using hu)) rfl ?_
        refine RL.append1 T_ok [.tmp 50] h5 (us := [tV x]) (tC x) rfl rfl rfl rfl rfl rfl rfl rfl rfl (by simp [tV, tC, Value.cells]) (by simp [tV, Value.cells]) (tC_one x) (by unfold maxLen; omega) (by show (_ + 1) * 32 ≤ _; omega) ?_
        intro v14 m14 S14 hO14 hE14 hF14
        refine ⟨_, rfl, ?_⟩
        have l1 := h1.lt
        have l2 := h2.lt
        have l3 := h3.lt
        have l4 := h4.lt
        have j14 : ∀ k ∈ S14, m4.heap.size ≤ k ∧ k ≠ b5 ∧ k ≠ b6 ∧ k ≠ b7 ∧ k ∉ S5 := fun k hk => by
          rcases hF14 k hk with h9 | h9
          · obtain ⟨q1, q2, q3, q4⟩ := g7 k h9
            exact ⟨q1, q2, q3, q4, fun hh => (g6 k hh).2.2.2.2 h9⟩
          · have := hE13.size
            exact ⟨by omega, by omega, by omega, by omega, fun hh => by have := l4 k hh; omega⟩
        have k1 := h1.ext hE14 (fun hh => (g7 _ hh).2.1 rfl)
        have k2 := h2.ext hE14 (fun hh => (g7 _ hh).2.2.1 rfl)
        have k3 := h3.ext hE14 (fun hh => (g7 _ hh).2.2.2 rfl)
        have k4 := h4.ext hE14 (fun k hk hh => (g6 k hk).2.2.2.2 hh)
        have hE4_14 := hE13.trans hE14 (fun k hk => .inr (g7 k hk).1)
        refine RL.store T_ok k2 (i := 0) (v := v14) (by simp) rfl rfl rfl rfl hO14.one rfl ?_
        intro m15 hC15
        have hE15 := hE4_14.trans hC15.ext (fun k hk => .inr (by have h9 : k = b6 := (by simpa using hk); omega))
        refine RL.N1 ?_; (with_reducible repeat (first | refine QN.B1 ?_ | refine QN.N1 ?_ | refine WP.S1 ?_ | refine WP.B1 ?_ | refine WP.R1 ?_))
        refine RL.pure T_ok 1 rfl ?_
        refine RL.eqv (v' := .int .i64 ((i + 1 : Nat) : Int)) (congrArg _ (by rw [wrap_i64_in _ (by omega) (by omega)]; rfl)) ?_
        refine RL.A1 T_ok rfl ?_
        have hswN := y0.more hxr hcz hbz
        rw [← htake] at hswN
        refine RL.N1 (QN.round (i + 1, x.c, x.f, op' ++ [x], out') (Sub.C1 rfl (Sub.C1 rfl (Sub.C1 rfl (Sub.C1 rfl (Sub.C1 rfl (Sub.C1 rfl (Sub.C1 rfl (Sub.nil)))))))) ⟨by show i + 1 ≤ _; omega, ⟨hswN, hE15, S5, S14, v5, v14, k1.far hC15 (by omega), hC15.blk, k3.far hC15 (by omega), k4.ext hC15.ext (fun k hk hh => (g6 k hk).2.2.1 (by simpa using hh)), ?_, fun k hk => ?_, fun k hk => ?_, by simp⟩, ?_, hsnext⟩ (by show _ - (i + 1) < _ - i; omega))
        · rw [List.length_append, ← tsC_app]
          have := hO14.ext hC15.ext (fun k hk hh => (j14 k hk).2.2.1 (by simpa using hh))
          simpa using this
        · obtain ⟨q1, q2, q3, q4, q5⟩ := g6 k hk
          exact ⟨q1, q2, q3, q4, fun hh => (j14 k hh).2.2.2.2 hk⟩
        · obtain ⟨q1, q2, q3, q4, _⟩ := j14 k hk
          exact ⟨q1, q2, q3, q4⟩
        · show out'.length + (op' ++ [x]).length ≤ 2 * (i + 1)
          rw [List.length_append, List.length_singleton]; omega
    · replace hc : i = d.length := by have := of_decide_eq_false hc; simp only at this; omega
      subst hc
      rw [List.take_length] at hsw
      refine WP.exit ?_
      (with_reducible repeat (first | refine QN.tx ?_ | refine QN.bx ?_ | refine QN.B1 ?_ | refine QN.N1 ?_))
      refine WP.cut (X := Nat × List Trn) (fun _ => [(5, .pointer (some ⟨b5, 0, none⟩))]) (fun q m' => Swp m4 m4 [] m' b5 b6 b7 d c0 q.1 [] q.2 ∧ q.2.length ≤ 2 * d.length + 1) ?_ ?_
      · have hsw1 := hsw
        obtain ⟨y0, y1, S5, S6, v5, v6, g1, g2, g3, g4, g5, g6, g7, g8⟩ := hsw
        obtain ⟨A6, c6, rfl, _⟩ := g5.shape
        (with_reducible repeat (first | refine WP.S1 ?_ | refine WP.B1 ?_ | refine WP.R1 ?_))
        refine RL.load T_ok rfl rfl rfl (g2.cell 0 rfl) rfl ?_
        refine RL.pure T_ok 1 rfl ?_
        rcases hop : op with _ | ⟨y, op2⟩
        · subst hop
          refine RL.A1 T_ok rfl ?_
          refine RL.N1 ?_; (with_reducible repeat (first | refine QN.B1 ?_ | refine QN.N1 ?_))
          refine WP.condF rfl ?_
          refine WP.skip ?_
          exact QN.cutEnd (a, out) (Sub.C1 rfl Sub.nil) ⟨hsw1, by show out.length ≤ _; simp only [List.length_nil] at hln; omega⟩
        have hy0 := y0.opens y (by rw [hop]; simp)
        have gy := tright_iff.1 hy0.1
        rw [← hop]
        have hpos : 0 < op.length := by rw [hop]; simp
        have hR6 : Ts m9 [] (.slice A6 op.length c6) op := g5.sl (by simp)
        obtain ⟨ad6, rfl, hz⟩ := hR6.cell 0 hpos
        have hz0 : op[0] = y := by simp [hop]
        rw [hz0] at hz
        refine RL.pure T_ok 1 rfl ?_
        refine RL.eqv (v' := .bool true) (congrArg _ (decide_eq_true (by omega))) ?_
        refine RL.N1 ?_; (with_reducible repeat (first | refine QN.B1 ?_ | refine QN.N1 ?_))
        refine WP.condT rfl ?_
        subst hfv
        (with_reducible repeat (first | refine WP.S1 ?_ | refine WP.B1 ?_ | refine WP.R1 ?_))
        refine RL.A1 T_ok rfl ?_
        refine RL.load T_ok rfl rfl rfl (g2.cell 0 rfl) rfl ?_
        refine RL.indexAddr (k := 0) T_ok rfl rfl rfl rfl rfl rfl rfl hpos rfl ?_
        refine RL.pure T_ok 1 rfl ?_
        refine RL.load T_ok rfl rfl rfl (hz 0 _ rfl) rfl ?_
        refine RL.eqv (v' := .int .u64 c0) (congrArg (fun (q : Nat) => Value.int .u64 q) hy0.2.1) ?_
        refine RL.call (fi := []) (ca := [.pointer (some ⟨b6, 0, none⟩), .pointer (some ⟨b7, 0, none⟩), .pointer (some ⟨b5, 0, none⟩)]) rfl rfl rfl rfl (flush_c m4 m4 [] m9 b5 b6 b7 hbs d c0 a op out 9007199254740992 (Nat.le_refl _) hsw1 (by omega) (by have := hy0.2.2.2; omega)) ?_
        rintro _ m12 ⟨a', op', out', hsw12, hend, ha', hlen12⟩
        refine ⟨_, rfl, ?_⟩
        have hop' : op' = [] := by
          rcases hend with h1 | h1
          · exact h1
          · refine List.eq_nil_iff_forall_not_mem.2 fun z hz => ?_
            have h2 := hsw12.1.opens z hz
            have h3 := tright_iff.1 h2.1
            omega
        subst hop'
        simp only [List.length_nil] at hlen12
        exact RL.N1 (QN.cutEnd (a', out') (Sub.C1 rfl Sub.nil) ⟨hsw12, by show out'.length ≤ _; omega⟩)
      · rintro ⟨a', out'⟩ m12 ⟨hsw12, hlen12⟩
        simp only at hsw12 hlen12
        obtain ⟨y0, y1, S5, S6, v5, v6, g1, g2, g3, g4, g5, g6, g7, g8⟩ := hsw12
        have hk12 : m12.heap[D]? = some (.deferred (some [])) := (y1.far D hDlt4 (by simp)).trans hk4
        obtain ⟨t1, t2⟩ := y0.done
        (with_reducible repeat (first | refine WP.S1 ?_ | refine WP.B1 ?_ | refine WP.R1 ?_))
        refine RL.load T_ok rfl rfl rfl (g1.cell 0 rfl) rfl ?_
        refine RL.A1 T_ok rfl ?_
        refine RL.N1 ?_; (with_reducible repeat (first | refine QN.B1 ?_ | refine QN.N1 ?_ | refine WP.S1 ?_ | refine WP.B1 ?_ | refine WP.R1 ?_))
        refine WP.ret ?_; (with_reducible repeat (first | refine QN.tr ?_ | refine QN.br ?_))
        refine QN.leaveM (.inl rfl) hk12 (fun m' hK hfar => ⟨Res.tmp rfl rfl, ⟨_, rfl, out'.reverse, ⟨t1, fun c k => ?_, ?_⟩, S5, ?_, (hE4m.trans y1 (by simp)).of_kc hK hDm, fun k hk => .inr (by have := (g6 k hk).1; have := hE4m.size; omega)⟩⟩)
        · rw [t2, turnOf_perm hperm, turnOf_filter]
        · rw [List.length_reverse]; omega
        · rw [List.length_reverse]; exact g4.kc hK
  · rintro D c pre m' _ _ hx
    exact hx.elim
end Go.Proofs.YtmjpcaiehfimgaaDoor
end
section
namespace Go.Proofs.YtmjpcaiehfimgaaDoor
open Go.RowKit Go.Ev Go.Ids
end Go.Proofs.YtmjpcaiehfimgaaDoor
end
section
namespace Go.Proofs.YtmjpcaiehfimgaaDoor
open Go.RowKit Go.Ev Go.Ids
end Go.Proofs.YtmjpcaiehfimgaaDoor
end
section
namespace Go.Proofs.YtmjpcaiehfimgaaDoor
open Go.RowKit Go.Ev Go.Ids
end Go.Proofs.YtmjpcaiehfimgaaDoor
end
section
namespace Go.Proofs.YtmjpcaiehfimgaaDoor
open Go.RowKit Go.Ev Go.Ids
end Go.Proofs.YtmjpcaiehfimgaaDoor
end
section
namespace Go.Proofs.YtmjpcaiehfimgaaDoor
open Go.RowKit Go.Ev Go.Ids
def AForm (rs than L : List Trn) : Prop := TCanon L ∧ (∀ c k, turnOf L c k = aboveOf rs than c k) ∧ L.length ≤ rs.length * (2 * (rs.length + than.length))
end Go.Proofs.YtmjpcaiehfimgaaDoor
end
section
namespace Go.Proofs.YtmjpcaiehfimgaaDoor
open Go.RowKit Go.Ev Go.Ids
theorem AForm.turns {l L L' : List Trn} (h : TForm l L) (h' : AForm l [] L') : L' = L := tcanon_unique h'.1 h.1 fun c k => by rw [h'.2.1, h.2.1, aboveOf_nil]
end Go.Proofs.YtmjpcaiehfimgaaDoor
end
section
namespace Go.Proofs.YtmjpcaiehfimgaaDoor
open Go.RowKit Go.Ev Go.Ids
theorem WAt.nd {m : World} {b : Nat} {S : List Nat} {l : List UInt8} (h : WAt m b S l) : S.Nodup := by
  obtain ⟨v, S1, _, h2, h3, rfl⟩ := h
  exact List.nodup_cons.2 ⟨h3, h2.nd⟩
def wA (b : Nat) (S : List Nat) (l : List UInt8) : Asn where
  own := S
  P := fun m _ => WAt m b S l
  lt := fun h k hk => h.lt k hk
  keep := fun h hE hn _ _ => h.ext hE hn
def rdA (b : Nat) (l : List UInt8) (e : Int) : Asn where
  own := [b]
  P := fun m M => RAt m M b l e
  lt := fun h k hk => by have : k = b := by simpa using hk
                         subst this; exact h.lt
  keep := fun h hE hn hN hM => h.ext hE (hn b (by simp)) hN hM
theorem Tr.wr {m0 m m' : World} {M0 X : List Nat} {H : List Asn} {b : Nat} {S S' : List Nat} {l l' : List UInt8} (h : Tr m0 M0 X m (wA b S l :: H)) (hW : WAt m' b S' l') (hE : Ext m S m') (hF : FpNew m S S') : Tr m0 M0 X m' (wA b S' l' :: H) := by
  have hn := List.nodup_append.1 (ofps_cons _ _ ▸ h.hold.nd)
  refine h.step (A := wA b S l) hE hF hW.nd (fun k hk hx => ?_) hW
  rcases hF k hk with h1 | h1
  · rcases List.mem_append.1 hx with h2 | h2
    · exact hn.2.2 k h1 k h2 rfl
    · exact h.hold.out k (by rw [ofps_cons]; exact List.mem_append_left _ h1) h2
  · rcases List.mem_append.1 hx with h2 | h2
    · have := h.hold.lt k (by rw [ofps_cons]; exact List.mem_append_right _ h2); omega
    · have := h.xlt k h2; have := h.ext.size; omega
def WP_ (b : Nat) (l : List UInt8) (v : Value) (H : List Asn) : Prop := v = .tuple #[] ∧ ∃ S, H = [wA b S l]
theorem DoS.w {P : Program} {f : FuncId} {args : List Value} {b : Nat} {S : List Nat} {l l' : List UInt8} {R : List Asn} (h : ∀ m X, Tr m (ofps (wA b S l :: R)) X m (wA b S l :: R) → WAt m b S l → FnR P f args m (WPost m b S l')) : DoS P f args (wA b S l :: R) (WP_ b l') := fun m X hT =>
  (h m X hT hT.head).mono fun v m' ⟨hv, S', hW, hE, hF⟩ => ⟨[wA b S' l'], ⟨hv, S', rfl⟩, by
    have h1 : Tr m (ofps (wA b S l :: R)) X m ([wA b S l] ++ R) := hT
    exact (Tr.wr h1 hW hE hF).perm (.refl _) |>.drop (F := R)⟩
theorem wbyte_s (x : UInt8) (b : Nat) (S : List Nat) (l : List UInt8) (hl : l.length < 1000000000) : DoS Tryd.prog 13 [.pointer (some ⟨b, 0, none⟩), .int .u8 x.toNat] [wA b S l] (WP_ b (l ++ [x])) :=
  DoS.w fun m _ _ h => wbyte m x b S l h hl
theorem wuint_s (n : Nat) (hn : n < 18446744073709551616) (b : Nat) (S : List Nat) (l : List UInt8) (hl : l.length < 1000000000) : DoS Tryd.prog 14 [.pointer (some ⟨b, 0, none⟩), .int .u64 n] [wA b S l] (WP_ b (l ++ encU n)) :=
  DoS.w fun m _ _ h => wuint m n hn b S l h hl
theorem str_size (s : List UInt8) : (str s).size = s.length := by show s.toArray.size = _; simp
theorem str_list (s : List UInt8) : (str s).data.toList = s := by show s.toArray.toList = s; simp
theorem wtext_s (s : List UInt8) (hs : s.length < 1000000000) (b : Nat) (S : List Nat) (l : List UInt8) (hl : l.length < 1000000000) : DoS Tryd.prog 15 [.pointer (some ⟨b, 0, none⟩), .string (str s)] [wA b S l] (WP_ b (l ++ encS s)) :=
  DoS.w fun m _ _ h => by
    have := wtext m (str s) (by rw [str_size]; exact hs) b S l h hl
    rw [str_size, str_list, List.append_assoc] at this
    exact this
theorem wbytes_s (b : Nat) (S : List Nat) (l : List UInt8) (hl : l.length < 1000000000) : DoS Tryd.prog 18 [.pointer (some ⟨b, 0, none⟩)] [wA b S l] (fun r H => ∃ S', H = [ownA S' 5 1 r l.length (u8s l), wA b S l]) := fun m X hT =>
  (wbytes m b S l hT.head hl).mono fun _ _ ⟨S', hO, hN⟩ => ⟨_, ⟨S', rfl⟩, hT.made hO hN⟩
theorem vwrite_s (b : Nat) (S : List Nat) (bs : List UInt8) (v : Value) (l : List Clk) (hl : l.length < 1000000) (hbs : bs.length < 100000000) : DoS Tryd.prog 16 [.pointer (some ⟨b, 0, none⟩), v] [wA b S bs, roA 2 v (l.flatMap cC)] (WP_ b (bs ++ encV (vclean l))) :=
  DoS.w fun m X hT h => vwrite_c m b S bs v l h (Sl.less (hT.ro 1 rfl) (by simp) (by omega)) hl hbs
theorem DoS.made {P : Program} {f : FuncId} {args : List Value} {sz n : Nat} {t : TypeId} {v : Value} {ws xs : List Value} {sz0 : Nat} (h : ∀ m, Sl m [] sz0 v ws → FnR P f args m fun r m' => ∃ S', Ev.Own m' S' t sz r n xs ∧ New m S' m') : DoS P f args [roA sz0 v ws] (fun r H => ∃ S', H = [ownA S' t sz r n xs]) := fun m X hT =>
  (h m (Sl.less (hT.ro 0 rfl) (by simp) hT.head.2)).mono fun r _ ⟨S', hO, hN⟩ => ⟨_, ⟨S', rfl⟩, (hT.made hO hN).perm (.refl _) |>.drop (H := [ownA S' t sz r n xs])⟩
theorem vclean_s (v : Value) (l : List Clk) (hl : l.length < 100000000) : DoS Tryd.prog 24 [v] [roA 2 v (l.flatMap cC)] (fun r H => ∃ S', H = [ownA S' 39 2 r (vclean l).length ((vclean l).flatMap cC)]) :=
  DoS.made fun m h => vclean_c m v l h hl
theorem turnsF_s (v : Value) (l : List Trn) (hl : l.length < 200000000) : DoS Tryd.prog 17 [v] [roA 4 v (l.flatMap tC)] (fun r H => (tnorm l).length ≤ 2 * l.length + 2 ∧ ∃ S', H = [ownA S' 53 4 r (tnorm l).length ((tnorm l).flatMap tC)]) := fun m X hT =>
  (turnsF_c m v l (Sl.less (hT.ro 0 rfl) (by simp) (by omega)) hl).mono fun r m' ⟨L, hL, S', hO, hN⟩ => by
    obtain rfl := tnorm_eq hL.1 hL.2.1
    exact ⟨_, ⟨hL.2.2, S', rfl⟩, (hT.made hO hN).perm (.refl _) |>.drop (H := [ownA S' _ 4 r _ _])⟩
def OP_ (l : List UInt8) (v : Value) (H : List Asn) : Prop := ∃ S, H = [ownA S 5 1 v l.length (u8s l)]
theorem DoS.o {P : Program} {f : FuncId} {args : List Value} {u : Value} {S : List Nat} {l l' : List UInt8} {R : List Asn} (h : ∀ m X, Tr m (ofps (ownA S 5 1 u l.length (u8s l) :: R)) X m (ownA S 5 1 u l.length (u8s l) :: R) → Ev.Own m S 5 1 u l.length (u8s l) → FnR P f args m (OPost m S l')) : DoS P f args (ownA S 5 1 u l.length (u8s l) :: R) (OP_ l') := fun m X hT =>
  (h m X hT hT.head).mono fun v m' ⟨S', hO, hE, hF⟩ => ⟨_, ⟨S', rfl⟩, (hT.grow hO hE hF).perm (.refl _) |>.drop (H := [ownA S' 5 1 v l'.length (u8s l')]) (F := R)⟩
theorem copy_s (v : Value) (l : List UInt8) (hl : l.length < 1000000000) : DoS Tryd.prog 9 [v] [roA 1 v (u8s l)] (fun r H => ∃ S', H = [ownA S' 5 1 r l.length (u8s l)]) :=
  DoS.made fun m h => copy_c m [] v l h hl
theorem DoS.looks {P : Program} {f : FuncId} {args : List Value} {Pre : List Asn} {r : Value} (h : ∀ m X, Tr m (ofps Pre) X m Pre → FnR P f args m fun v m' => v = r ∧ m' = m) : DoS P f args Pre (fun v H => v = r ∧ H = []) := fun m X hT =>
  (h m X hT).mono fun v m' ⟨h1, h2⟩ => ⟨[], ⟨h1, rfl⟩, by subst h2; exact Tr.drop (H := []) (F := Pre) hT⟩
theorem hbytes_s (v u : Value) (a b : List UInt8) : DoS Tryd.prog 10 [v, u] [roA 1 v (u8s a), roA 1 u (u8s b)] (fun r H => r = .bool (decide (a = b)) ∧ H = []) :=
  DoS.looks fun m X hT => hbytes_c m [] v u a b (Sl.less (hT.ro 0 rfl) (by simp) (by omega)) (Sl.less (hT.ro 1 rfl) (by simp) (by omega))
def RP_ {α : Type} (b : Nat) (enc : α → Value) (r : α × St) (v : Value) (H : List Asn) : Prop := v = enc r.1 ∧ H = [rdA b r.2.1 r.2.2]
theorem DoS.r {P : Program} {f : FuncId} {args : List Value} {α : Type} {enc : α → Value} {b : Nat} {l : List UInt8} {e : Int} {r : α × St} (h : ∀ m M, RAt m M b l e → b ∈ M → FnR P f args m (RPost m M b enc r)) : DoS P f args [rdA b l e] (RP_ b enc r) := fun m X hT =>
  (h m _ hT.head (by simp [ofps_cons, rdA])).mono fun v m' ⟨h1, h2, h3⟩ => ⟨_, ⟨h1, rfl⟩, hT.step_same (B := rdA b r.2.1 r.2.2) h3 rfl h2⟩
theorem ruint_s (b : Nat) (l : List UInt8) (e : Int) (most : Nat) : DoS Tryd.prog 41 [.pointer (some ⟨b, 0, none⟩), .int .u64 most] [rdA b l e] (RP_ b (fun n : Nat => .int .u64 n) (rdN most (l, e))) :=
  DoS.r fun m M h hM => ruint_c m M b l e h hM most
theorem rbyte_s (b : Nat) (l : List UInt8) (e : Int) : DoS Tryd.prog 40 [.pointer (some ⟨b, 0, none⟩)] [rdA b l e] (RP_ b (fun n : UInt8 => .int .u8 n.toNat) (rdB (l, e))) :=
  DoS.r fun m M h hM => rbyte_c m M b l e h hM
theorem rtext_s (b : Nat) (l : List UInt8) (e : Int) (hl : l.length < 1000000000) (most : Nat) (hm : most ≤ 9223372036854775807) : DoS Tryd.prog 42 [.pointer (some ⟨b, 0, none⟩), .int .i64 most] [rdA b l e] (RP_ b (fun s : List UInt8 => .string (str s)) (rdT most (l, e))) :=
  DoS.r fun m M h hM => rtext_c m M b l e h hM hl most (by omega) (by omega)
theorem rerr_s (b : Nat) (l : List UInt8) (e : Int) : DoS Tryd.prog 44 [.pointer (some ⟨b, 0, none⟩)] [rdA b l e] (fun r H => r = .int .i64 e ∧ H = [rdA b l e]) := fun m X hT =>
  (err_c m _ b l e hT.head).mono fun v m' ⟨h1, h2⟩ => ⟨_, ⟨h1, rfl⟩, by subst h2; exact hT⟩
theorem rleft_s (b : Nat) (l : List UInt8) (e : Int) : DoS Tryd.prog 45 [.pointer (some ⟨b, 0, none⟩)] [rdA b l e] (fun r H => r = .int .i64 l.length ∧ H = [rdA b l e]) := fun m X hT =>
  (left_c m _ b l e hT.head).mono fun v m' ⟨h1, h2⟩ => ⟨_, ⟨h1, rfl⟩, by subst h2; exact hT⟩
theorem newReader_s (v : Value) (l : List UInt8) (hl : l.length < 1000000000) : DoS Tryd.prog 21 [v] [roA 1 v (u8s l)] (fun r H => ∃ b, r = .pointer (some ⟨b, 0, none⟩) ∧ H = [rdA b l 0]) := fun m X hT => by
  have hS : Bs m X v l := Sl.less (hT.ro 0 rfl) (fun k hk => .inl (by simpa [ofps, roA] using hk)) (by omega)
  refine (newReader_c m X hT.xlt v l hS hl).mono fun r m' ⟨b, h1, h2, h3, h4⟩ => ⟨_, ⟨b, h1, rfl⟩, ?_⟩
  refine Tr.drop (H := [rdA b l 0]) (F := [roA 1 v (u8s l)]) (hT.new (B := rdA b l 0) h4 (fun k hk => ?_) (by simp [rdA]) ?_)
  · obtain rfl : k = b := by simpa [rdA] using hk
    omega
  · simpa [ofps, roA, rdA] using h3
theorem VRPost.tr {At : World → List Nat → Nat → List UInt8 → Int → Prop} {A : List UInt8 → Int → Asn} {b : Nat} (hA : ∀ l e, (A l e).own = [b]) (hP : ∀ l e m M, (A l e).P m M ↔ At m M b l e) {m m' : World} {X : List Nat} {l : List UInt8} {e : Int} {t : List Clk × St} {r : Value}
    (hT : Tr m (ofps [A l e]) X m [A l e]) (h : VRPost At m (ofps [A l e] ++ X) b t r m') : ∃ S, Tr m (ofps [A l e]) X m' [ownA S 39 2 r t.1.length (t.1.flatMap cC), A t.2.1 t.2.2] := by
  obtain ⟨S, hO, hR, hE, hF⟩ := h
  have e1 : ofps [A l e] = [b] := by simp [ofps, hA]
  have hblt : b < m.heap.size := hT.hold.lt b (by rw [e1]; simp)
  have hnew : ∀ k ∈ S, m.heap.size ≤ k := fun k hk => by
    rcases hF k hk with h1 | h1
    · cases h1
    · exact h1
  refine ⟨S, ⟨⟨fun C hC => ?_, ?_, fun k hk hx => ?_⟩, by rw [e1]; exact hE, fun k hk => ?_, hT.xlt, hT.mx⟩⟩
  · rcases List.mem_cons.1 hC with rfl | hC
    · exact hO
    · have : C = A t.2.1 t.2.2 := by simpa using hC
      subst this
      refine (hP _ _ _ _).2 ?_
      simpa [ofps, hA, ownA, List.append_assoc] using hR
  · simp only [ofps_cons, ofps_nil, hA, List.append_nil, ownA]
    exact List.nodup_append.2 ⟨hO.nd, by simp, fun a ha c hc hac => by
      have h1 := hnew a ha
      have h2 : c = b := by simpa using hc
      omega⟩
  · simp only [ofps_cons, ofps_nil, hA, List.append_nil, ownA, List.mem_append, List.mem_singleton] at hk
    rcases hk with h1 | rfl
    · have := hnew k h1; have := hT.xlt k hx; omega
    · exact hT.hold.out k (by rw [e1]; simp) hx
  · simp only [ofps_cons, ofps_nil, hA, List.append_nil, ownA, List.mem_append, List.mem_singleton] at hk
    rcases hk with h1 | rfl
    · exact .inr (hnew k h1)
    · exact .inl (by rw [e1]; simp)
theorem vread_s (b : Nat) (l : List UInt8) (e : Int) : DoS Tryd.prog 43 [.pointer (some ⟨b, 0, none⟩)] [rdA b l e] (fun r H => ∃ S, H = [ownA S 39 2 r (vrd (l, e)).1.length ((vrd (l, e)).1.flatMap cC), rdA b (vrd (l, e)).2.1 (vrd (l, e)).2.2]) := fun m X hT =>
  (vread_c m _ b l e hT.head (by simp [ofps_cons, rdA])).mono fun r m' h => by
    obtain ⟨S, h1⟩ := VRPost.tr (A := rdA b) (fun _ _ => rfl) (fun _ _ _ _ => Iff.rfl) hT h
    exact ⟨_, ⟨S, rfl⟩, h1⟩
end Go.Proofs.YtmjpcaiehfimgaaDoor
end
section
namespace Go.Proofs.YtmjpcaiehfimgaaDoor
open Go.RowKit Go.Ev Go.Ids
theorem equal_Turn_s (v u : Value) (xs ys : List Trn) (hl : xs.length < 1000000000) : DoS Tryd.prog 28 [v, u] [roA 4 v (xs.flatMap tC), roA 4 u (ys.flatMap tC)] (fun r H => r = .bool (decide (xs = ys)) ∧ H = []) := by
  refine DoS.looks fun m X hT => ?_
  have h : Ts m [] v xs := Sl.less (hT.ro 0 rfl) (by simp) (by omega)
  have h' : Ts m [] u ys := Sl.less (hT.ro 1 rfl) (by simp) (by omega)
  obtain ⟨A, c, rfl, _, _⟩ := h.shape
  obtain ⟨B, c', rfl, _, _⟩ := h'.shape
  clear hT
  refine FnE.enter ⟨_, Tryd.func28, by kernel_rfl, by kernel_rfl⟩ Tryd.func28 rfl rfl ?_
  (with_reducible repeat (first | refine WP.S1 ?_ | refine WP.B1 ?_ | refine WP.R1 ?_))
  refine RL.A1 T_ok rfl ?_
  refine RL.N1 ?_; (with_reducible repeat (first | refine QN.B1 ?_ | refine QN.N1 ?_ | refine WP.S1 ?_ | refine WP.B1 ?_ | refine WP.R1 ?_))
  refine RL.pure T_ok 4 rfl ?_
  refine RL.pure T_ok 1 rfl ?_
  refine RL.eqv (v' := .bool (decide (xs.length ≠ ys.length))) (congrArg _ (bne_nat' _ _)) ?_
  refine RL.N1 ?_; (with_reducible repeat (first | refine QN.B1 ?_ | refine QN.N1 ?_ | refine WP.S1 ?_ | refine WP.B1 ?_ | refine WP.R1 ?_))
  refine WP.cond rfl (fun hc => ?_) (fun hc => ?_)
  · have hc : xs.length ≠ ys.length := of_decide_eq_true hc
    (with_reducible repeat (first | refine WP.S1 ?_ | refine WP.B1 ?_ | refine WP.R1 ?_))
    refine RL.A1 T_ok rfl ?_
    refine RL.N1 ?_; (with_reducible repeat (first | refine QN.B1 ?_ | refine QN.N1 ?_ | refine WP.S1 ?_ | refine WP.B1 ?_ | refine WP.R1 ?_))
    refine WP.ret ?_; (with_reducible repeat (first | refine QN.tr ?_ | refine QN.br ?_))
    exact QN.ret1 rfl rfl ⟨_, rfl, by rw [decide_eq_false (fun h => hc (by rw [h]))], rfl⟩
  have hlen : xs.length = ys.length := Classical.not_not.1 (of_decide_eq_false hc)
  refine WP.skip ?_; (with_reducible repeat (first | refine QN.B1 ?_ | refine QN.N1 ?_ | refine WP.S1 ?_ | refine WP.B1 ?_ | refine WP.R1 ?_))
  refine RL.A1 T_ok rfl ?_
  refine RL.N1 ?_; (with_reducible repeat (first | refine QN.B1 ?_ | refine QN.N1 ?_ | refine WP.S1 ?_ | refine WP.B1 ?_ | refine WP.R1 ?_))
  refine WP.loop (X := Nat) (fun i => [(0, .slice A xs.length c), (1, .slice B ys.length c'), (12, .int .i64 xs.length), (13, .int .i64 i)]) (fun i m' => i ≤ xs.length ∧ xs.take i = ys.take i ∧ m' = m) (fun i => xs.length - i) 0
    (Sub.C1 rfl (Sub.C1 rfl (Sub.C1 rfl (Sub.C1 rfl Sub.nil)))) ⟨by simp, by simp, rfl⟩ ?_
  rintro i m1 ⟨hi, ht, rfl⟩
  (with_reducible repeat (first | refine WP.S1 ?_ | refine WP.B1 ?_ | refine WP.R1 ?_))
  refine RL.A1 T_ok rfl ?_
  refine RL.N1 ?_; (with_reducible repeat (first | refine QN.B1 ?_ | refine QN.N1 ?_ | refine WP.S1 ?_ | refine WP.B1 ?_ | refine WP.R1 ?_))
  refine WP.cond rfl (fun hc => ?_) (fun hc => ?_)
  · have hc : i < xs.length := by have := of_decide_eq_true hc; omega
    have hcb : i < ys.length := by omega
    refine WP.skip ?_; (with_reducible repeat (first | refine QN.B1 ?_ | refine QN.N1 ?_ | refine WP.S1 ?_ | refine WP.B1 ?_ | refine WP.R1 ?_))
    refine RL.A1 T_ok rfl ?_
    refine RL.N1 ?_; (with_reducible repeat (first | refine QN.B1 ?_ | refine QN.N1 ?_ | refine WP.S1 ?_ | refine WP.B1 ?_ | refine WP.R1 ?_))
    refine WP.drawQ (fun m' => m' = m1) [] (by kernel_rfl) rfl (by with_reducible repeat (first | exact PanicOk.body | refine PanicOk.then_ ?_ | refine PanicOk.block_ ?_)) (fun hQ => ?_)
    refine RH.pure T_ok hQ [0, 1] (by kernel_rfl) rfl ?_
    obtain ⟨ad, rfl, hx⟩ := h.cell i hc
    obtain ⟨bd, rfl, hy⟩ := h'.cell i hcb
    refine RH.indexAddr T_ok hQ 2 (k := i) rfl (by kernel_rfl) rfl rfl rfl rfl rfl rfl rfl hc rfl ?_
    refine RH.loadAgg T_ok hQ 3 (tC xs[i]) (fun m' hm' => by rw [hm']; exact hx) rfl (by kernel_rfl) rfl rfl rfl rfl ?_
    refine RH.pure T_ok hQ [4, 5] (by kernel_rfl) rfl ?_
    refine RH.indexAddr T_ok hQ 6 (k := i) rfl (by kernel_rfl) rfl rfl rfl rfl rfl rfl rfl hcb rfl ?_
    refine RH.loadAgg T_ok hQ 7 (tC ys[i]) (fun m' hm' => by rw [hm']; exact hy) rfl (by kernel_rfl) rfl rfl rfl rfl ?_
    refine RH.binOp (eqT_run xs[i] ys[i]) (eqT_guard xs[i] ys[i] _ _) hQ 8 rfl (by kernel_rfl) rfl rfl rfl rfl ?_
    refine RH.done (by kernel_rfl) (fun _ => ?_)
    (with_reducible repeat (first | refine QN.B1 ?_ | refine QN.N1 ?_))
    by_cases hab : xs[i] = ys[i]
    · refine WP.condF (congrArg (fun q => some (Value.bool q)) (decide_eq_false (not_not_intro hab))) ?_
      refine WP.skip ?_; (with_reducible repeat (first | refine QN.B1 ?_ | refine QN.N1 ?_ | refine WP.S1 ?_ | refine WP.B1 ?_ | refine WP.R1 ?_))
      refine RL.A1 T_ok rfl ?_
      refine RL.N1 (QN.round (i + 1) (Sub.C1 rfl (Sub.C1 rfl (Sub.C1 rfl (Sub.C1 ?_ Sub.nil)))) ⟨by omega, ?_, rfl⟩ (by omega))
      · show some (Value.int .i64 (IntKind.i64.wrap ((i : Int) + 1))) = some (Value.int .i64 ((i + 1 : Nat) : Int))
        rw [wrap_i64_in _ (by omega) (by omega)]; rfl
      · rw [List.take_succ_eq_append_getElem hc, List.take_succ_eq_append_getElem hcb, ht, hab]
    · refine WP.condT (congrArg (fun q => some (Value.bool q)) (decide_eq_true hab)) ?_
      (with_reducible repeat (first | refine WP.S1 ?_ | refine WP.B1 ?_ | refine WP.R1 ?_))
      refine RL.A1 T_ok rfl ?_
      refine RL.N1 ?_; (with_reducible repeat (first | refine QN.B1 ?_ | refine QN.N1 ?_ | refine WP.S1 ?_ | refine WP.B1 ?_ | refine WP.R1 ?_))
      refine WP.ret ?_; (with_reducible repeat (first | refine QN.tr ?_ | refine QN.br ?_))
      refine QN.ret1 rfl rfl ⟨_, rfl, ?_, rfl⟩
      rw [decide_eq_false]
      intro h; subst h; exact hab rfl
  · have hc : i = xs.length := by have := of_decide_eq_false hc; omega
    subst hc
    rw [List.take_length, hlen, List.take_length] at ht
    refine WP.exit ?_; (with_reducible repeat (first | refine QN.tx ?_ | refine QN.bx ?_ | refine QN.block_far rfl ?_ | refine QN.B1 ?_ | refine QN.N1 ?_)); (with_reducible repeat (first | refine WP.S1 ?_ | refine WP.B1 ?_ | refine WP.R1 ?_))
    refine RL.A1 T_ok rfl ?_
    refine RL.N1 ?_; (with_reducible repeat (first | refine QN.B1 ?_ | refine QN.N1 ?_ | refine WP.S1 ?_ | refine WP.B1 ?_ | refine WP.R1 ?_))
    refine WP.ret ?_; (with_reducible repeat (first | refine QN.tr ?_ | refine QN.br ?_))
    exact QN.ret1 rfl rfl ⟨_, rfl, by rw [decide_eq_true ht], rfl⟩
theorem equal_Clock_s (v u : Value) (xs ys : List Clk) (hl : xs.length < 1000000000) : DoS Tryd.prog 27 [v, u] [roA 2 v (xs.flatMap cC), roA 2 u (ys.flatMap cC)] (fun r H => r = .bool (decide (xs = ys)) ∧ H = []) := by
  refine DoS.looks fun m X hT => ?_
  have h : Cs m [] v xs := Sl.less (hT.ro 0 rfl) (by simp) (by omega)
  have h' : Cs m [] u ys := Sl.less (hT.ro 1 rfl) (by simp) (by omega)
  obtain ⟨A, c, rfl, _, _⟩ := h.shape
  obtain ⟨B, c', rfl, _, _⟩ := h'.shape
  clear hT
  refine FnE.enter ⟨_, Tryd.func27, by kernel_rfl, by kernel_rfl⟩ Tryd.func27 rfl rfl ?_
  (with_reducible repeat (first | refine WP.S1 ?_ | refine WP.B1 ?_ | refine WP.R1 ?_))
  refine RL.A1 T_ok rfl ?_
  refine RL.N1 ?_; (with_reducible repeat (first | refine QN.B1 ?_ | refine QN.N1 ?_ | refine WP.S1 ?_ | refine WP.B1 ?_ | refine WP.R1 ?_))
  refine RL.pure T_ok 4 rfl ?_
  refine RL.pure T_ok 1 rfl ?_
  refine RL.eqv (v' := .bool (decide (xs.length ≠ ys.length))) (congrArg _ (bne_nat' _ _)) ?_
  refine RL.N1 ?_; (with_reducible repeat (first | refine QN.B1 ?_ | refine QN.N1 ?_ | refine WP.S1 ?_ | refine WP.B1 ?_ | refine WP.R1 ?_))
  refine WP.cond rfl (fun hc => ?_) (fun hc => ?_)
  · have hc : xs.length ≠ ys.length := of_decide_eq_true hc
    (with_reducible repeat (first | refine WP.S1 ?_ | refine WP.B1 ?_ | refine WP.R1 ?_))
    refine RL.A1 T_ok rfl ?_
    refine RL.N1 ?_; (with_reducible repeat (first | refine QN.B1 ?_ | refine QN.N1 ?_ | refine WP.S1 ?_ | refine WP.B1 ?_ | refine WP.R1 ?_))
    refine WP.ret ?_; (with_reducible repeat (first | refine QN.tr ?_ | refine QN.br ?_))
    exact QN.ret1 rfl rfl ⟨_, rfl, by rw [decide_eq_false (fun h => hc (by rw [h]))], rfl⟩
  have hlen : xs.length = ys.length := Classical.not_not.1 (of_decide_eq_false hc)
  refine WP.skip ?_; (with_reducible repeat (first | refine QN.B1 ?_ | refine QN.N1 ?_ | refine WP.S1 ?_ | refine WP.B1 ?_ | refine WP.R1 ?_))
  refine RL.A1 T_ok rfl ?_
  refine RL.N1 ?_; (with_reducible repeat (first | refine QN.B1 ?_ | refine QN.N1 ?_ | refine WP.S1 ?_ | refine WP.B1 ?_ | refine WP.R1 ?_))
  refine WP.loop (X := Nat) (fun i => [(0, .slice A xs.length c), (1, .slice B ys.length c'), (12, .int .i64 xs.length), (13, .int .i64 i)]) (fun i m' => i ≤ xs.length ∧ xs.take i = ys.take i ∧ m' = m) (fun i => xs.length - i) 0
    (Sub.C1 rfl (Sub.C1 rfl (Sub.C1 rfl (Sub.C1 rfl Sub.nil)))) ⟨by simp, by simp, rfl⟩ ?_
  rintro i m1 ⟨hi, ht, rfl⟩
  (with_reducible repeat (first | refine WP.S1 ?_ | refine WP.B1 ?_ | refine WP.R1 ?_))
  refine RL.A1 T_ok rfl ?_
  refine RL.N1 ?_; (with_reducible repeat (first | refine QN.B1 ?_ | refine QN.N1 ?_ | refine WP.S1 ?_ | refine WP.B1 ?_ | refine WP.R1 ?_))
  refine WP.cond rfl (fun hc => ?_) (fun hc => ?_)
  · have hc : i < xs.length := by have := of_decide_eq_true hc; omega
    have hcb : i < ys.length := by omega
    refine WP.skip ?_; (with_reducible repeat (first | refine QN.B1 ?_ | refine QN.N1 ?_ | refine WP.S1 ?_ | refine WP.B1 ?_ | refine WP.R1 ?_))
    refine RL.A1 T_ok rfl ?_
    refine RL.N1 ?_; (with_reducible repeat (first | refine QN.B1 ?_ | refine QN.N1 ?_ | refine WP.S1 ?_ | refine WP.B1 ?_ | refine WP.R1 ?_))
    refine WP.drawQ (fun m' => m' = m1) [] (by kernel_rfl) rfl (by with_reducible repeat (first | exact PanicOk.body | refine PanicOk.then_ ?_ | refine PanicOk.block_ ?_)) (fun hQ => ?_)
    refine RH.pure T_ok hQ [0, 1] (by kernel_rfl) rfl ?_
    obtain ⟨ad, rfl, hx⟩ := h.cell i hc
    obtain ⟨bd, rfl, hy⟩ := h'.cell i hcb
    refine RH.indexAddr T_ok hQ 2 (k := i) rfl (by kernel_rfl) rfl rfl rfl rfl rfl rfl rfl hc rfl ?_
    refine RH.loadAgg T_ok hQ 3 (cC xs[i]) (fun m' hm' => by rw [hm']; exact hx) rfl (by kernel_rfl) rfl rfl rfl rfl ?_
    refine RH.pure T_ok hQ [4, 5] (by kernel_rfl) rfl ?_
    refine RH.indexAddr T_ok hQ 6 (k := i) rfl (by kernel_rfl) rfl rfl rfl rfl rfl rfl rfl hcb rfl ?_
    refine RH.loadAgg T_ok hQ 7 (cC ys[i]) (fun m' hm' => by rw [hm']; exact hy) rfl (by kernel_rfl) rfl rfl rfl rfl ?_
    refine RH.binOp (eqK_run xs[i] ys[i]) (eqK_guard xs[i] ys[i] _ _) hQ 8 rfl (by kernel_rfl) rfl rfl rfl rfl ?_
    refine RH.done (by kernel_rfl) (fun _ => ?_)
    (with_reducible repeat (first | refine QN.B1 ?_ | refine QN.N1 ?_))
    by_cases hab : xs[i] = ys[i]
    · refine WP.condF (congrArg (fun q => some (Value.bool q)) (decide_eq_false (not_not_intro hab))) ?_
      refine WP.skip ?_; (with_reducible repeat (first | refine QN.B1 ?_ | refine QN.N1 ?_ | refine WP.S1 ?_ | refine WP.B1 ?_ | refine WP.R1 ?_))
      refine RL.A1 T_ok rfl ?_
      refine RL.N1 (QN.round (i + 1) (Sub.C1 rfl (Sub.C1 rfl (Sub.C1 rfl (Sub.C1 ?_ Sub.nil)))) ⟨by omega, ?_, rfl⟩ (by omega))
      · show some (Value.int .i64 (IntKind.i64.wrap ((i : Int) + 1))) = some (Value.int .i64 ((i + 1 : Nat) : Int))
        rw [wrap_i64_in _ (by omega) (by omega)]; rfl
      · rw [List.take_succ_eq_append_getElem hc, List.take_succ_eq_append_getElem hcb, ht, hab]
    · refine WP.condT (congrArg (fun q => some (Value.bool q)) (decide_eq_true hab)) ?_
      (with_reducible repeat (first | refine WP.S1 ?_ | refine WP.B1 ?_ | refine WP.R1 ?_))
      refine RL.A1 T_ok rfl ?_
      refine RL.N1 ?_; (with_reducible repeat (first | refine QN.B1 ?_ | refine QN.N1 ?_ | refine WP.S1 ?_ | refine WP.B1 ?_ | refine WP.R1 ?_))
      refine WP.ret ?_; (with_reducible repeat (first | refine QN.tr ?_ | refine QN.br ?_))
      refine QN.ret1 rfl rfl ⟨_, rfl, ?_, rfl⟩
      rw [decide_eq_false]
      intro h; subst h; exact hab rfl
  · have hc : i = xs.length := by have := of_decide_eq_false hc; omega
    subst hc
    rw [List.take_length, hlen, List.take_length] at ht
    refine WP.exit ?_; (with_reducible repeat (first | refine QN.tx ?_ | refine QN.bx ?_ | refine QN.block_far rfl ?_ | refine QN.B1 ?_ | refine QN.N1 ?_)); (with_reducible repeat (first | refine WP.S1 ?_ | refine WP.B1 ?_ | refine WP.R1 ?_))
    refine RL.A1 T_ok rfl ?_
    refine RL.N1 ?_; (with_reducible repeat (first | refine QN.B1 ?_ | refine QN.N1 ?_ | refine WP.S1 ?_ | refine WP.B1 ?_ | refine WP.R1 ?_))
    refine WP.ret ?_; (with_reducible repeat (first | refine QN.tr ?_ | refine QN.br ?_))
    exact QN.ret1 rfl rfl ⟨_, rfl, by rw [decide_eq_true ht], rfl⟩
end Go.Proofs.YtmjpcaiehfimgaaDoor
end
section
namespace Go.Proofs.YtmjpcaiehfimgaaDoor
open Go.RowKit Go.Ev
theorem bne_natB (a b : Nat) : ((a : Int) != (b : Int)) = decide (a ≠ b) := by
  by_cases h : a = b
  · simp [h]
  · have : ¬ (a : Int) = (b : Int) := by omega
    simp [h, bne, beq_eq_false_iff_ne.2 this]
theorem equalB_c (m : World) (M M' : List Nat) (v u : Value) (a b : List UInt8) (h : Bs m M v a) (h' : Bs m M' u b) (hla : a.length < 1000000000) :
    FnR Tryd.prog 23 [v, u] m fun r m' => r = .bool (decide (a = b)) ∧ m' = m := by
  obtain ⟨A, c, rfl, _, _⟩ := h.shape
  obtain ⟨B, c', rfl, _, _⟩ := h'.shape
  refine FnE.enter ⟨_, Tryd.func23, by kernel_rfl, by kernel_rfl⟩ Tryd.func23 rfl rfl ?_
  (with_reducible repeat (first | refine WP.S1 ?_ | refine WP.B1 ?_ | refine WP.R1 ?_))
  refine RL.A1 T_ok rfl ?_
  refine RL.N1 ?_; (with_reducible repeat (first | refine QN.B1 ?_ | refine QN.N1 ?_ | refine WP.S1 ?_ | refine WP.B1 ?_ | refine WP.R1 ?_))
  refine RL.pure T_ok 4 rfl ?_
  refine RL.pure T_ok 1 rfl ?_
  refine RL.eqv (v' := .bool (decide (a.length ≠ b.length))) (congrArg _ (bne_natB _ _)) ?_
  refine RL.N1 ?_; (with_reducible repeat (first | refine QN.B1 ?_ | refine QN.N1 ?_ | refine WP.S1 ?_ | refine WP.B1 ?_ | refine WP.R1 ?_))
  refine WP.cond rfl (fun hc => ?_) (fun hc => ?_)
  · have hc : a.length ≠ b.length := of_decide_eq_true hc
    (with_reducible repeat (first | refine WP.S1 ?_ | refine WP.B1 ?_ | refine WP.R1 ?_))
    refine RL.A1 T_ok rfl ?_
    refine RL.N1 ?_; (with_reducible repeat (first | refine QN.B1 ?_ | refine QN.N1 ?_ | refine WP.S1 ?_ | refine WP.B1 ?_ | refine WP.R1 ?_))
    refine WP.ret ?_; (with_reducible repeat (first | refine QN.tr ?_ | refine QN.br ?_))
    exact QN.ret1 rfl rfl ⟨_, rfl, by rw [decide_eq_false (fun h => hc (by rw [h]))], rfl⟩
  · have hlen : a.length = b.length := Classical.not_not.1 (of_decide_eq_false hc)
    refine WP.skip ?_; (with_reducible repeat (first | refine QN.B1 ?_ | refine QN.N1 ?_ | refine WP.S1 ?_ | refine WP.B1 ?_ | refine WP.R1 ?_))
    refine RL.A1 T_ok rfl ?_
    refine RL.N1 ?_; (with_reducible repeat (first | refine QN.B1 ?_ | refine QN.N1 ?_ | refine WP.S1 ?_ | refine WP.B1 ?_ | refine WP.R1 ?_))
    refine WP.loop (X := Nat) (fun i => [(0, .slice A a.length c), (1, .slice B b.length c'), (12, .int .i64 a.length), (13, .int .i64 i)]) (fun i m' => i ≤ a.length ∧ a.take i = b.take i ∧ m' = m) (fun i => a.length - i) 0
      (Sub.C1 rfl (Sub.C1 rfl (Sub.C1 rfl (Sub.C1 rfl Sub.nil)))) ⟨by simp, by simp, rfl⟩ ?_
    rintro i m1 ⟨hi, ht, rfl⟩
    (with_reducible repeat (first | refine WP.S1 ?_ | refine WP.B1 ?_ | refine WP.R1 ?_))
    refine RL.A1 T_ok rfl ?_
    refine RL.N1 ?_; (with_reducible repeat (first | refine QN.B1 ?_ | refine QN.N1 ?_ | refine WP.S1 ?_ | refine WP.B1 ?_ | refine WP.R1 ?_))
    refine WP.cond rfl (fun hc => ?_) (fun hc => ?_)
    · have hc : i < a.length := by have := of_decide_eq_true hc; omega
      have hcb : i < b.length := by omega
      refine WP.skip ?_; (with_reducible repeat (first | refine QN.B1 ?_ | refine QN.N1 ?_ | refine WP.S1 ?_ | refine WP.B1 ?_ | refine WP.R1 ?_))
      refine RL.A1 T_ok rfl ?_
      refine RL.N1 ?_; (with_reducible repeat (first | refine QN.B1 ?_ | refine QN.N1 ?_ | refine WP.S1 ?_ | refine WP.B1 ?_ | refine WP.R1 ?_))
      refine WP.drawQ (fun m' => m' = m1) [] (by kernel_rfl) rfl (by with_reducible repeat (first | exact PanicOk.body | refine PanicOk.then_ ?_ | refine PanicOk.block_ ?_)) (fun hQ => ?_)
      refine RH.pure T_ok hQ [0, 1] (by kernel_rfl) rfl ?_
      obtain ⟨ad, rfl, _, hcell⟩ := Sl.addr h (by omega)
      obtain ⟨bd, rfl, _, hcell'⟩ := Sl.addr h' (by omega)
      refine RH.indexAddr T_ok hQ 2 (k := i) rfl (by kernel_rfl) rfl rfl rfl rfl rfl rfl rfl hc rfl ?_
      refine RH.load T_ok hQ 3 (v := .int .u8 (a[i]).toNat) (fun m' hm' => by rw [hm']; exact hcell (i * 1) _ (by rw [Nat.mul_one]; exact u8s_get a i hc)) rfl (by kernel_rfl) rfl rfl rfl rfl ?_
      refine RH.pure T_ok hQ [4, 5] (by kernel_rfl) rfl ?_
      refine RH.indexAddr T_ok hQ 6 (k := i) rfl (by kernel_rfl) rfl rfl rfl rfl rfl rfl rfl hcb rfl ?_
      refine RH.load T_ok hQ 7 (v := .int .u8 (b[i]).toNat) (fun m' hm' => by rw [hm']; exact hcell' (i * 1) _ (by rw [Nat.mul_one]; exact u8s_get b i hcb)) rfl (by kernel_rfl) rfl rfl rfl rfl ?_
      refine RH.pure T_ok hQ [8] (by kernel_rfl) rfl ?_
      refine RH.done (by kernel_rfl) (fun _ => ?_)
      (with_reducible repeat (first | refine QN.B1 ?_ | refine QN.N1 ?_))
      by_cases hab : a[i] = b[i]
      · refine WP.condF (by show some (Value.bool ((((a[i]).toNat : Nat) : Int) != (((b[i]).toNat : Nat) : Int))) = _; rw [hab]; simp) ?_
        refine WP.skip ?_; (with_reducible repeat (first | refine QN.B1 ?_ | refine QN.N1 ?_ | refine WP.S1 ?_ | refine WP.B1 ?_ | refine WP.R1 ?_))
        refine RL.A1 T_ok rfl ?_
        refine RL.N1 (QN.round (i + 1) (Sub.C1 rfl (Sub.C1 rfl (Sub.C1 rfl (Sub.C1 ?_ Sub.nil)))) ⟨by omega, ?_, rfl⟩ (by omega))
        · show some (Value.int .i64 (IntKind.i64.wrap ((i : Int) + 1))) = some (Value.int .i64 ((i + 1 : Nat) : Int))
          rw [wrap_i64_in _ (by omega) (by omega)]; rfl
        · rw [List.take_succ_eq_append_getElem hc, List.take_succ_eq_append_getElem hcb, ht, hab]
      · refine WP.condT (by
          show some (Value.bool ((((a[i]).toNat : Nat) : Int) != (((b[i]).toNat : Nat) : Int))) = _
          have : (a[i]).toNat ≠ (b[i]).toNat := fun h => hab (UInt8.toNat_inj.1 h)
          congr 2; simp only [bne_iff_ne, ne_eq]; omega) ?_
        (with_reducible repeat (first | refine WP.S1 ?_ | refine WP.B1 ?_ | refine WP.R1 ?_))
        refine RL.A1 T_ok rfl ?_
        refine RL.N1 ?_; (with_reducible repeat (first | refine QN.B1 ?_ | refine QN.N1 ?_ | refine WP.S1 ?_ | refine WP.B1 ?_ | refine WP.R1 ?_))
        refine WP.ret ?_; (with_reducible repeat (first | refine QN.tr ?_ | refine QN.br ?_))
        refine QN.ret1 rfl rfl ⟨_, rfl, ?_, rfl⟩
        rw [decide_eq_false]
        intro h; subst h; exact hab rfl
    · have hc : i = a.length := by have := of_decide_eq_false hc; omega
      subst hc
      rw [List.take_length, hlen, List.take_length] at ht
      refine WP.exit ?_; (with_reducible repeat (first | refine QN.tx ?_ | refine QN.bx ?_ | refine QN.block_far rfl ?_ | refine QN.B1 ?_ | refine QN.N1 ?_)); (with_reducible repeat (first | refine WP.S1 ?_ | refine WP.B1 ?_ | refine WP.R1 ?_))
      refine RL.A1 T_ok rfl ?_
      refine RL.N1 ?_; (with_reducible repeat (first | refine QN.B1 ?_ | refine QN.N1 ?_ | refine WP.S1 ?_ | refine WP.B1 ?_ | refine WP.R1 ?_))
      refine WP.ret ?_; (with_reducible repeat (first | refine QN.tr ?_ | refine QN.br ?_))
      exact QN.ret1 rfl rfl ⟨_, rfl, by rw [decide_eq_true ht], rfl⟩
theorem equal_Byte_s (v u : Value) (a b : List UInt8) (hl : a.length < 1000000000) : DoS Tryd.prog 23 [v, u] [roA 1 v (u8s a), roA 1 u (u8s b)] (fun r H => r = .bool (decide (a = b)) ∧ H = []) :=
  DoS.looks fun m X hT => equalB_c m [] [] v u a b (Sl.less (hT.ro 0 rfl) (by simp) (by omega)) (Sl.less (hT.ro 1 rfl) (by simp) (by omega)) hl
end Go.Proofs.YtmjpcaiehfimgaaDoor
end
section
namespace Go.Proofs.YtmjpcaiehfimgaaDoor
open Go.RowKit Go.Ev Go.Ids
theorem QN.retCT {P : Program} {fn : Func} {post : Ending → World → Prop} {T : Ty} (hT : T.Ok P) {n : Nat} {e : Env} {m0 m : World} {M0 X : List Nat} {H : List Asn} {t u : Tmp} {ty tb : TypeId} {b : Nat} {cs : List Value} {v : Value} (hS : Tr m0 M0 X m H) (hr : fn.results = #[.cell t ty, .tmp u]) (ht : e.get t = some (.pointer (some ⟨b, 0, none⟩)))
    (hty : T.aggN ty = some cs.length) (hu : e.get u = some v) (hB : blkA b tb cs ∈ H) (h : post (.returned (.tuple #[.agg cs.toArray, v])) m) : QN (bodyQ P fn post) .ret n e ⟨[], none⟩ m := by
  intro a w hf hs
  refine ⟨hf.defers, .tuple #[.agg cs.toArray, v], ?_, m, hs, h⟩
  obtain ⟨r, hr', ha, hsz⟩ := Ty.aggN_spec hty
  have h1 := (hT.row hr').run_isAgg (TyK.known_of_agg ha) w
  rw [ha] at h1
  have h2 := (hT.row hr').run_size w
  rw [hsz] at h2
  have h3 := run_loadCells_list (P := P) w ⟨b, 0, none⟩ cs (fun j x hx => (hs.cell _).trans (by rw [add_block, Nat.zero_add]; exact Blk.cell (hS.mem hB) j hx))
  simp [results, hr, hf.get t _ ht, hf.get u _ hu, asAddr, loadVar, h1, h2, h3]
theorem numOk (n : Nat) : num n = (decide (1 ≤ n) && decide (n ≤ 9007199254740991)) := rfl
theorem mnumber_s (n : Nat) : DoS Tryd.prog 25 [.int .u64 n] [] (fun r H => r = .bool (num n) ∧ H = []) := by
  intro m0 X hS
  have fin : ∀ b, num n = b → ∃ r, Ending.returned (.bool b) = .returned r ∧ ∃ H', (r = Value.bool (num n) ∧ H' = []) ∧ Tr m0 (ofps []) X m0 H' := fun b hb => ⟨_, rfl, [], ⟨by rw [hb], rfl⟩, hS⟩
  refine FnE.enter ⟨_, Tryd.func25, by kernel_rfl, by kernel_rfl⟩ Tryd.func25 rfl rfl ?_
  (with_reducible repeat (first | refine WP.S1 ?_ | refine WP.B1 ?_ | refine WP.R1 ?_))
  refine RL.A1 T_ok rfl ?_
  refine RL.N1 ?_; (with_reducible repeat (first | refine QN.B1 ?_ | refine QN.N1 ?_ | refine WP.S1 ?_ | refine WP.B1 ?_ | refine WP.R1 ?_))
  refine RL.pure T_ok 2 rfl ?_
  by_cases h1 : 1 ≤ n
  · refine RL.eqv (v' := .bool true) (congrArg _ (decide_eq_true (by omega))) ?_
    refine RL.A1 T_ok rfl ?_
    refine RL.N1 ?_; (with_reducible repeat (first | refine QN.B1 ?_ | refine QN.N1 ?_ | refine WP.S1 ?_ | refine WP.B1 ?_ | refine WP.R1 ?_))
    refine WP.ret ?_; (with_reducible repeat (first | refine QN.tr ?_ | refine QN.br ?_))
    refine QN.ret1 rfl rfl (fin _ ?_)
    rw [numOk, decide_eq_true h1, Bool.true_and]
    exact decide_eq_decide.2 (by omega)
  · refine RL.eqv (v' := .bool false) (congrArg _ (decide_eq_false (by omega))) ?_
    refine RL.A1 T_ok rfl ?_
    refine RL.N1 ?_; (with_reducible repeat (first | refine QN.B1 ?_ | refine QN.N1 ?_ | refine WP.S1 ?_ | refine WP.B1 ?_ | refine WP.R1 ?_))
    refine WP.ret ?_; (with_reducible repeat (first | refine QN.tr ?_ | refine QN.br ?_))
    refine QN.ret1 rfl rfl (fin _ ?_)
    rw [numOk, decide_eq_false h1, Bool.false_and]
def txt (l : List UInt8) : Bool := (runesL l).isSome
abbrev nameOk (l : List UInt8) : Bool := nameIs txt l
theorem mname_s (l : List UInt8) (hl : l.length ≤ 1000000000) : DoS Tryd.prog 26 [.string (str l)] [tabA] (fun r H => r = .bool (nameOk l) ∧ H = []) := by
  intro m0 X hS
  have fin : ∀ b m, nameOk l = b → Tr m0 (ofps [tabA]) X m [tabA] → ∃ r, Ending.returned (.bool b) = .returned r ∧ ∃ H', (r = Value.bool (nameOk l) ∧ H' = []) ∧ Tr m0 (ofps [tabA]) X m H' := fun b m hb hS => ⟨_, rfl, [], ⟨by rw [hb], rfl⟩, Tr.drop (H := []) hS⟩
  refine FnE.enter ⟨_, Tryd.func26, by kernel_rfl, by kernel_rfl⟩ Tryd.func26 rfl rfl ?_
  (with_reducible repeat (first | refine WP.S1 ?_ | refine WP.B1 ?_ | refine WP.R1 ?_))
  refine RL.A1 T_ok rfl ?_
  refine RL.N1 ?_; (with_reducible repeat (first | refine QN.B1 ?_ | refine QN.N1 ?_ | refine WP.S1 ?_ | refine WP.B1 ?_ | refine WP.R1 ?_))
  refine RL.pure T_ok 2 rfl ?_
  by_cases h1 : l = []
  · refine RL.eqv (v' := .bool false) (congrArg Value.bool (by
      show (!((str l).toList == (str []).toList)) = false
      rw [str_eq, decide_eq_true h1]; rfl)) ?_
    refine RL.A1 T_ok rfl ?_
    refine RL.N1 ?_; (with_reducible repeat (first | refine QN.B1 ?_ | refine QN.N1 ?_ | refine WP.S1 ?_ | refine WP.B1 ?_ | refine WP.R1 ?_))
    refine WP.ret ?_; (with_reducible repeat (first | refine QN.tr ?_ | refine QN.br ?_))
    exact QN.ret1 rfl rfl (fin _ _ (by unfold nameOk nameIs; simp [h1]) hS)
  refine RL.eqv (v' := .bool true) (congrArg Value.bool (by
    show (!((str l).toList == (str []).toList)) = true
    rw [str_eq, decide_eq_false h1]; rfl)) ?_
  refine RL.pure T_ok 3 rfl ?_
  refine RL.eqv (v' := .int .i64 l.length) (congrArg _ (congrArg _ (str_sz l))) ?_
  refine RL.pure T_ok 1 rfl ?_
  by_cases h2 : l.length ≤ 32
  rotate_left
  · refine RL.eqv (v' := .bool false) (congrArg _ (decide_eq_false (by omega))) ?_
    refine RL.A1 T_ok rfl ?_
    refine RL.N1 ?_; (with_reducible repeat (first | refine QN.B1 ?_ | refine QN.N1 ?_ | refine WP.S1 ?_ | refine WP.B1 ?_ | refine WP.R1 ?_))
    refine WP.ret ?_; (with_reducible repeat (first | refine QN.tr ?_ | refine QN.br ?_))
    exact QN.ret1 rfl rfl (fin _ _ (by unfold nameOk nameIs; simp [h1, h2]) hS)
  refine RL.eqv (v' := .bool true) (congrArg _ (decide_eq_true (by omega))) ?_
  refine RL.A1 T_ok rfl ?_
  refine RL.callM (fi := []) (ca := []) hS (ucheck_s l (by omega)) rfl rfl rfl rfl (by repeat (first | with_reducible exact Sels.nil | apply Sels.ro (by with_reducible repeat (first | exact zS .. | apply zO)) (by rfl) | apply Sels.own (by with_reducible repeat (first | exact Sel.head | apply Sel.tail)))) ?_
  (try clear hS); rintro _ m _ ⟨rfl, rfl⟩ hS; (try simp only [zC, zN] at hS); refine ⟨_, rfl, ?_⟩
  refine RL.A1 T_ok rfl ?_
  refine RL.N1 ?_; (with_reducible repeat (first | refine QN.B1 ?_ | refine QN.N1 ?_ | refine WP.S1 ?_ | refine WP.B1 ?_ | refine WP.R1 ?_))
  refine WP.ret ?_; (with_reducible repeat (first | refine QN.tr ?_ | refine QN.br ?_))
  exact QN.ret1 rfl rfl (fin _ _ (by unfold nameOk nameIs; simp [h1, h2, txt]) hS)
def mC (m : Msg) (vv tv bv : Value) : List Value := [.int .i64 m.kind, .int .u64 m.c, .int .u64 m.n, .string (str m.room), vv, tv, bv]
def mR (m : Msg) (vv tv bv : Value) : List Asn := [roA 2 vv (m.vec.flatMap cC), roA 4 tv (m.turns.flatMap tC), roA 1 bv (u8s m.b)]
theorem alike_s (a b : Msg) (va ta ba vb tb bb : Value) (ha : a.Fit) : DoS Tryd.prog 12 [.agg (mC a va ta ba).toArray, .agg (mC b vb tb bb).toArray] (mR a va ta ba ++ mR b vb tb bb) (fun r H => r = .bool (a.same b) ∧ H = []) := by
  intro m0 X hS
  have fin : ∀ q m H, a.same b = q → Tr m0 (ofps (mR a va ta ba ++ mR b vb tb bb)) X m H → ∃ r, Ending.returned (.bool q) = .returned r ∧ ∃ H', (r = Value.bool (a.same b) ∧ H' = []) ∧ Tr m0 (ofps (mR a va ta ba ++ mR b vb tb bb)) X m H' := fun q m H hb hS => ⟨_, rfl, [], ⟨by rw [hb], rfl⟩, Tr.drop (H := []) hS⟩
  generalize hP : ofps (mR a va ta ba ++ mR b vb tb bb) = PP at *
  simp only [mR, zC, zN] at hS
  clear hP
  refine FnE.enter ⟨_, Tryd.func12, by kernel_rfl, by kernel_rfl⟩ Tryd.func12 rfl rfl ?_
  (with_reducible repeat (first | refine WP.S1 ?_ | refine WP.B1 ?_ | refine WP.R1 ?_))
  refine RL.boxS hS rfl rfl rfl ?_; (try clear hS); intro b2 m hS; refine ⟨_, rfl, ?_⟩
  refine RL.boxS hS rfl rfl rfl ?_; (try clear hS); intro b3 m hS; refine ⟨_, rfl, ?_⟩
  refine RL.A1 T_ok rfl ?_
  refine RL.N1 ?_; (with_reducible repeat (first | refine QN.B1 ?_ | refine QN.N1 ?_ | refine WP.S1 ?_ | refine WP.B1 ?_ | refine WP.R1 ?_))
  refine RL.pure T_ok 1 rfl ?_
  refine RL.loadM T_ok hS rfl rfl rfl (by with_reducible repeat (first | exact zS .. | apply zO)) (by rfl) (by rfl) ?_
  refine RL.pure T_ok 1 rfl ?_
  refine RL.loadM T_ok hS rfl rfl rfl (by with_reducible repeat (first | exact zS .. | apply zO)) (by rfl) (by rfl) ?_
  refine RL.pure T_ok 1 rfl ?_
  by_cases h0 : a.kind = b.kind
  rotate_left
  · refine RL.eqv (v' := .bool false) (congrArg _ (beq_false_of_ne (by omega))) ?_
    refine RL.A1 T_ok rfl ?_
    refine RL.N1 ?_; (with_reducible repeat (first | refine QN.B1 ?_ | refine QN.N1 ?_ | refine WP.S1 ?_ | refine WP.B1 ?_ | refine WP.R1 ?_))
    refine WP.ret ?_; (with_reducible repeat (first | refine QN.tr ?_ | refine QN.br ?_))
    exact QN.ret1 rfl rfl (fin _ _ _ (by unfold Msg.same; simp [h0]) hS)
  refine RL.eqv (v' := .bool true) (congrArg _ (beq_iff_eq.2 (by omega))) ?_
  refine RL.pure T_ok 2 rfl ?_
  refine RL.loadM T_ok hS rfl rfl rfl (by with_reducible repeat (first | exact zS .. | apply zO)) (by rfl) (by rfl) ?_
  refine RL.pure T_ok 1 rfl ?_
  refine RL.loadM T_ok hS rfl rfl rfl (by with_reducible repeat (first | exact zS .. | apply zO)) (by rfl) (by rfl) ?_
  refine RL.pure T_ok 1 rfl ?_
  by_cases h1 : a.c = b.c
  rotate_left
  · refine RL.eqv (v' := .bool false) (congrArg _ (beq_false_of_ne (by omega))) ?_
    refine RL.A1 T_ok rfl ?_
    refine RL.N1 ?_; (with_reducible repeat (first | refine QN.B1 ?_ | refine QN.N1 ?_ | refine WP.S1 ?_ | refine WP.B1 ?_ | refine WP.R1 ?_))
    refine WP.ret ?_; (with_reducible repeat (first | refine QN.tr ?_ | refine QN.br ?_))
    exact QN.ret1 rfl rfl (fin _ _ _ (by unfold Msg.same; simp [h0, h1]) hS)
  refine RL.eqv (v' := .bool true) (congrArg _ (beq_iff_eq.2 (by omega))) ?_
  refine RL.pure T_ok 3 rfl ?_
  refine RL.loadM T_ok hS rfl rfl rfl (by with_reducible repeat (first | exact zS .. | apply zO)) (by rfl) (by rfl) ?_
  refine RL.pure T_ok 1 rfl ?_
  refine RL.loadM T_ok hS rfl rfl rfl (by with_reducible repeat (first | exact zS .. | apply zO)) (by rfl) (by rfl) ?_
  refine RL.pure T_ok 1 rfl ?_
  by_cases h2 : a.n = b.n
  rotate_left
  · refine RL.eqv (v' := .bool false) (congrArg _ (beq_false_of_ne (by omega))) ?_
    refine RL.A1 T_ok rfl ?_
    refine RL.N1 ?_; (with_reducible repeat (first | refine QN.B1 ?_ | refine QN.N1 ?_ | refine WP.S1 ?_ | refine WP.B1 ?_ | refine WP.R1 ?_))
    refine WP.ret ?_; (with_reducible repeat (first | refine QN.tr ?_ | refine QN.br ?_))
    exact QN.ret1 rfl rfl (fin _ _ _ (by unfold Msg.same; simp [h0, h1, h2]) hS)
  refine RL.eqv (v' := .bool true) (congrArg _ (beq_iff_eq.2 (by omega))) ?_
  refine RL.pure T_ok 3 rfl ?_
  refine RL.loadM T_ok hS rfl rfl rfl (by with_reducible repeat (first | exact zS .. | apply zO)) (by rfl) (by rfl) ?_
  refine RL.pure T_ok 1 rfl ?_
  refine RL.loadM T_ok hS rfl rfl rfl (by with_reducible repeat (first | exact zS .. | apply zO)) (by rfl) (by rfl) ?_
  refine RL.pure T_ok 1 rfl ?_
  by_cases h3 : a.room = b.room
  rotate_left
  · refine RL.eqv (v' := .bool false) (congrArg _ ((str_eq _ _).trans (decide_eq_false h3))) ?_
    refine RL.A1 T_ok rfl ?_
    refine RL.N1 ?_; (with_reducible repeat (first | refine QN.B1 ?_ | refine QN.N1 ?_ | refine WP.S1 ?_ | refine WP.B1 ?_ | refine WP.R1 ?_))
    refine WP.ret ?_; (with_reducible repeat (first | refine QN.tr ?_ | refine QN.br ?_))
    exact QN.ret1 rfl rfl (fin _ _ _ (by unfold Msg.same; simp [h0, h1, h2, h3]) hS)
  refine RL.eqv (v' := .bool true) (congrArg _ ((str_eq _ _).trans (decide_eq_true h3))) ?_
  refine RL.pure T_ok 3 rfl ?_
  refine RL.loadM T_ok hS rfl rfl rfl (by with_reducible repeat (first | exact zS .. | apply zO)) (by rfl) (by rfl) ?_
  refine RL.pure T_ok 1 rfl ?_
  refine RL.loadM T_ok hS rfl rfl rfl (by with_reducible repeat (first | exact zS .. | apply zO)) (by rfl) (by rfl) ?_
  refine RL.callM (fi := []) (ca := []) hS (equal_Clock_s _ _ a.vec b.vec (by have := ha.vec; omega)) rfl rfl rfl rfl (by repeat (first | with_reducible exact Sels.nil | apply Sels.ro (by with_reducible repeat (first | exact zS .. | apply zO)) (by rfl) | apply Sels.own (by with_reducible repeat (first | exact Sel.head | apply Sel.tail)))) ?_
  (try clear hS); rintro _ m _ ⟨rfl, rfl⟩ hS; (try simp only [zC, zN] at hS); refine ⟨_, rfl, ?_⟩
  by_cases h4 : a.vec = b.vec
  rotate_left
  · refine RL.eqv (v' := .bool false) (congrArg _ (decide_eq_false h4)) ?_
    refine RL.A1 T_ok rfl ?_
    refine RL.N1 ?_; (with_reducible repeat (first | refine QN.B1 ?_ | refine QN.N1 ?_ | refine WP.S1 ?_ | refine WP.B1 ?_ | refine WP.R1 ?_))
    refine WP.ret ?_; (with_reducible repeat (first | refine QN.tr ?_ | refine QN.br ?_))
    exact QN.ret1 rfl rfl (fin _ _ _ (by unfold Msg.same; simp [h0, h1, h2, h3, h4]) hS)
  refine RL.eqv (v' := .bool true) (congrArg _ (decide_eq_true h4)) ?_
  refine RL.pure T_ok 3 rfl ?_
  refine RL.loadM T_ok hS rfl rfl rfl (by with_reducible repeat (first | exact zS .. | apply zO)) (by rfl) (by rfl) ?_
  refine RL.pure T_ok 1 rfl ?_
  refine RL.loadM T_ok hS rfl rfl rfl (by with_reducible repeat (first | exact zS .. | apply zO)) (by rfl) (by rfl) ?_
  refine RL.callM (fi := []) (ca := []) hS (equal_Turn_s _ _ a.turns b.turns (by have := ha.turns; omega)) rfl rfl rfl rfl (by repeat (first | with_reducible exact Sels.nil | apply Sels.ro (by with_reducible repeat (first | exact zS .. | apply zO)) (by rfl) | apply Sels.own (by with_reducible repeat (first | exact Sel.head | apply Sel.tail)))) ?_
  (try clear hS); rintro _ m _ ⟨rfl, rfl⟩ hS; (try simp only [zC, zN] at hS); refine ⟨_, rfl, ?_⟩
  by_cases h5 : a.turns = b.turns
  rotate_left
  · refine RL.eqv (v' := .bool false) (congrArg _ (decide_eq_false h5)) ?_
    refine RL.A1 T_ok rfl ?_
    refine RL.N1 ?_; (with_reducible repeat (first | refine QN.B1 ?_ | refine QN.N1 ?_ | refine WP.S1 ?_ | refine WP.B1 ?_ | refine WP.R1 ?_))
    refine WP.ret ?_; (with_reducible repeat (first | refine QN.tr ?_ | refine QN.br ?_))
    exact QN.ret1 rfl rfl (fin _ _ _ (by unfold Msg.same; simp [h0, h1, h2, h3, h4, h5]) hS)
  refine RL.eqv (v' := .bool true) (congrArg _ (decide_eq_true h5)) ?_
  refine RL.pure T_ok 3 rfl ?_
  refine RL.loadM T_ok hS rfl rfl rfl (by with_reducible repeat (first | exact zS .. | apply zO)) (by rfl) (by rfl) ?_
  refine RL.pure T_ok 1 rfl ?_
  refine RL.loadM T_ok hS rfl rfl rfl (by with_reducible repeat (first | exact zS .. | apply zO)) (by rfl) (by rfl) ?_
  refine RL.callM (fi := []) (ca := []) hS (equal_Byte_s _ _ a.b b.b (by have := ha.b; omega)) rfl rfl rfl rfl (by repeat (first | with_reducible exact Sels.nil | apply Sels.ro (by with_reducible repeat (first | exact zS .. | apply zO)) (by rfl) | apply Sels.own (by with_reducible repeat (first | exact Sel.head | apply Sel.tail)))) ?_
  (try clear hS); rintro _ m _ ⟨rfl, rfl⟩ hS; (try simp only [zC, zN] at hS); refine ⟨_, rfl, ?_⟩
  by_cases h6 : a.b = b.b
  rotate_left
  · refine RL.eqv (v' := .bool false) (congrArg _ (decide_eq_false h6)) ?_
    refine RL.A1 T_ok rfl ?_
    refine RL.N1 ?_; (with_reducible repeat (first | refine QN.B1 ?_ | refine QN.N1 ?_ | refine WP.S1 ?_ | refine WP.B1 ?_ | refine WP.R1 ?_))
    refine WP.ret ?_; (with_reducible repeat (first | refine QN.tr ?_ | refine QN.br ?_))
    exact QN.ret1 rfl rfl (fin _ _ _ (by unfold Msg.same; simp [h0, h1, h2, h3, h4, h5, h6]) hS)
  refine RL.eqv (v' := .bool true) (congrArg _ (decide_eq_true h6)) ?_
  refine RL.A1 T_ok rfl ?_
  refine RL.N1 ?_; (with_reducible repeat (first | refine QN.B1 ?_ | refine QN.N1 ?_ | refine WP.S1 ?_ | refine WP.B1 ?_ | refine WP.R1 ?_))
  refine WP.ret ?_; (with_reducible repeat (first | refine QN.tr ?_ | refine QN.br ?_))
  exact QN.ret1 rfl rfl (fin _ _ _ (by unfold Msg.same; simp [h0, h1, h2, h3, h4, h5, h6]) hS)
end Go.Proofs.YtmjpcaiehfimgaaDoor
end
section
namespace Go.Proofs.YtmjpcaiehfimgaaDoor
open Go.RowKit Go.Ev Go.Ids
def BareP (m : Msg) (r : Value) (H : List Asn) : Prop := ∃ vv tv bv, r = .tuple #[.agg (mC m.bare vv tv bv).toArray, .bool (m.right txt)] ∧ H = mR m.bare vv tv bv
set_option maxHeartbeats 1000000 in
set_option maxRecDepth 20000 in
theorem bare_s (m : Msg) (vv tv bv : Value) (hf : m.Fit) : DoS Tryd.prog 11 [.agg (mC m vv tv bv).toArray] (tabA :: mR m vv tv bv) (BareP m) := by
  intro m0 X hS
  obtain ⟨K, c, n, room, vec, turns, b⟩ := m
  obtain ⟨f1, f2, f3, f4⟩ := hf
  simp only at f1 f2 f3 f4
  obtain ⟨PP, hP⟩ : ∃ PP, ofps (tabA :: mR ⟨K, c, n, room, vec, turns, b⟩ vv tv bv) = PP := ⟨_, rfl⟩
  rw [hP] at hS ⊢
  clear hP
  have hS : Tr m0 PP X m0 [tabA, roA 2 vv (vec.flatMap cC), roA 4 tv (turns.flatMap tC), roA 1 bv (u8s b)] := hS
  obtain ⟨vA, vc, rfl, _, _⟩ := Sl.shape (n := vec.length) (hS.mem (A := roA 2 vv (vec.flatMap cC)) (by simp)).1 (csC_len _) (by omega)
  obtain ⟨tA, tc, rfl, _, _⟩ := Sl.shape (n := turns.length) (hS.mem (A := roA 4 tv (turns.flatMap tC)) (by simp)).1 (tsC_len _) (by omega)
  obtain ⟨bA, bc, rfl, _, _⟩ := Sl.shape (n := b.length) (hS.mem (A := roA 1 bv (u8s b)) (by simp)).1 (by simp [u8s]) (by omega)
  refine FnE.enter ⟨_, Tryd.func11, by kernel_rfl, by kernel_rfl⟩ Tryd.func11 rfl rfl ?_
  (with_reducible repeat (first | refine WP.S1 ?_ | refine WP.B1 ?_ | refine WP.R1 ?_))
  refine RL.boxS hS rfl rfl rfl ?_; (try clear hS); intro b1 m hS; refine ⟨_, rfl, ?_⟩
  dsimp only [mC] at hS
  refine RL.allocS T_ok rfl hS rfl rfl ?_; (try clear hS); intro b2 m hS; refine ⟨_, rfl, ?_⟩
  refine RL.A1 T_ok rfl ?_
  refine RL.N1 ?_; (with_reducible repeat (first | refine QN.B1 ?_ | refine QN.N1 ?_ | refine WP.S1 ?_ | refine WP.B1 ?_ | refine WP.R1 ?_))
  repeat (first | refine RL.autoP T_ok rfl rfl ?_ | refine RL.loadM T_ok hS rfl rfl rfl (by with_reducible repeat (first | exact zS .. | apply zO)) (by rfl) (by rfl) ?_ | refine RL.lsM T_ok hS rfl rfl rfl (by with_reducible repeat (first | exact zS .. | apply zO)) (by rfl) (by rfl) (by rfl) ?_ | (refine RL.N1 ?_; (with_reducible repeat (first | refine QN.B1 ?_ | refine QN.N1 ?_))) | with_reducible refine WP.S1 ?_ | with_reducible refine WP.B1 ?_ | with_reducible refine WP.R1 ?_ | (refine WP.skip ?_; (with_reducible repeat (first | refine QN.B1 ?_ | refine QN.N1 ?_))) | refine WP.condT rfl ?_ | refine WP.condF rfl ?_)
  refine RL.allocS T_ok rfl hS rfl rfl ?_; (try clear hS); intro b4 m hS; refine ⟨_, rfl, ?_⟩
  refine RL.ssM T_ok hS rfl rfl rfl rfl rfl (by rfl) (by rfl) (by with_reducible repeat (first | exact Rep.head | apply Rep.tail)) (by rfl) ?_; (try clear hS); intro m hS
  repeat (first | refine RL.autoP T_ok rfl rfl ?_ | refine RL.loadM T_ok hS rfl rfl rfl (by with_reducible repeat (first | exact zS .. | apply zO)) (by rfl) (by rfl) ?_ | refine RL.lsM T_ok hS rfl rfl rfl (by with_reducible repeat (first | exact zS .. | apply zO)) (by rfl) (by rfl) (by rfl) ?_ | (refine RL.N1 ?_; (with_reducible repeat (first | refine QN.B1 ?_ | refine QN.N1 ?_))) | with_reducible refine WP.S1 ?_ | with_reducible refine WP.B1 ?_ | with_reducible refine WP.R1 ?_ | (refine WP.skip ?_; (with_reducible repeat (first | refine QN.B1 ?_ | refine QN.N1 ?_))) | refine WP.condT rfl ?_ | refine WP.condF rfl ?_)
  by_cases k1 : K = 1
  · subst k1
    repeat (first | refine RL.autoP T_ok rfl rfl ?_ | refine RL.loadM T_ok hS rfl rfl rfl (by with_reducible repeat (first | exact zS .. | apply zO)) (by rfl) (by rfl) ?_ | refine RL.lsM T_ok hS rfl rfl rfl (by with_reducible repeat (first | exact zS .. | apply zO)) (by rfl) (by rfl) (by rfl) ?_ | (refine RL.N1 ?_; (with_reducible repeat (first | refine QN.B1 ?_ | refine QN.N1 ?_))) | with_reducible refine WP.S1 ?_ | with_reducible refine WP.B1 ?_ | with_reducible refine WP.R1 ?_ | (refine WP.skip ?_; (with_reducible repeat (first | refine QN.B1 ?_ | refine QN.N1 ?_))) | refine WP.condT rfl ?_ | refine WP.condF rfl ?_)
    refine WP.drawS [blkA b1 27 [.int .i64 1, .int .u64 c, .int .u64 n, .string (str room), (.slice vA vec.length vc), (.slice tA turns.length tc), .slice bA b.length bc]] [] hS (by repeat (first | exact AllIn.nil | refine AllIn.cons (by repeat (first | with_reducible exact zS .. | exact zS .. | with_reducible apply zO)) ?_)) (by kernel_rfl) (by with_reducible repeat (first | exact PanicOk.body | refine PanicOk.then_ ?_ | refine PanicOk.block_ ?_)) (fun hQ => ?_)
    refine RH.pure T_ok hQ [0] (by kernel_rfl) rfl ?_
    refine RH.loadM T_ok hQ 1 rfl (by kernel_rfl) rfl rfl rfl (by with_reducible repeat (first | exact zS .. | apply zO)) (by rfl) (by rfl) ?_
    refine RH.pure T_ok hQ [2] (by kernel_rfl) rfl ?_
    refine RH.loadM T_ok hQ 3 rfl (by kernel_rfl) rfl rfl rfl (by with_reducible repeat (first | exact zS .. | apply zO)) (by rfl) (by rfl) ?_
    refine RH.pure T_ok hQ [4] (by kernel_rfl) rfl ?_
    refine RH.only 5 rfl (by kernel_rfl) (fun _ => ?_)
    refine RL.storeM T_ok hS rfl rfl rfl rfl (by rfl) (by rfl) (by with_reducible repeat (first | exact Rep.head | apply Rep.tail)) (by rfl) ?_; (try clear hS); intro m hS
    refine RL.N1 (RH.contM hS (by repeat (first | exact AllIn.nil | refine AllIn.cons (by repeat (first | with_reducible exact zS .. | exact zS .. | with_reducible apply zO)) ?_)) ?_)
    refine RH.pure T_ok hQ [6] (by kernel_rfl) rfl ?_
    refine RH.only 7 rfl (by kernel_rfl) (fun _ => ?_)
    refine RL.storeM T_ok hS rfl rfl rfl rfl (by rfl) (by rfl) (by with_reducible repeat (first | exact Rep.head | apply Rep.tail)) (by rfl) ?_; (try clear hS); intro m hS
    refine RL.N1 (RH.contM hS (by repeat (first | exact AllIn.nil | refine AllIn.cons (by repeat (first | with_reducible exact zS .. | exact zS .. | with_reducible apply zO)) ?_)) ?_)
    refine RH.done (by kernel_rfl) (fun _ => ?_)
    (with_reducible repeat (first | refine QN.B1 ?_ | refine QN.N1 ?_))
    refine WP.cut (X := Bool) (fun q => [(1, .pointer (some ⟨b1, 0, none⟩)), (2, .pointer (some ⟨b2, 0, none⟩)), (3, .bool false), (4, .pointer (some ⟨b4, 0, none⟩)), (5, .bool q), (10, .int .i64 1)])
      (fun q m => q = (decide ((vclean vec).length ≤ 16384) && decide ((tnorm turns).length ≤ 16384)) ∧ Tr m0 PP X m [blkA b4 27 [.int .i64 1, .int .u64 0, .int .u64 0, .string (str []), (.slice vA vec.length vc), (.slice tA turns.length tc), .slice none 0 0], blkA b2 27 [.int .i64 0, .int .u64 0, .int .u64 0, .string (str []), .slice none 0 0, .slice none 0 0, .slice none 0 0], blkA b1 27 [.int .i64 1, .int .u64 c, .int .u64 n, .string (str room), (.slice vA vec.length vc), (.slice tA turns.length tc), .slice bA b.length bc], tabA, roA 2 (.slice vA vec.length vc) (vec.flatMap cC), roA 4 (.slice tA turns.length tc) (turns.flatMap tC), roA 1 (.slice bA b.length bc) (u8s b)]) ?_ ?_
    · (with_reducible repeat (first | refine WP.S1 ?_ | refine WP.B1 ?_ | refine WP.R1 ?_))
      refine RL.pure T_ok 1 rfl ?_
      refine RL.loadM T_ok hS rfl rfl rfl (by with_reducible repeat (first | exact zS .. | apply zO)) (by rfl) (by rfl) ?_
      refine RL.callM (fi := []) (ca := []) hS (vclean_s _ vec (by omega)) rfl rfl rfl rfl (by repeat (first | with_reducible exact Sels.nil | apply Sels.ro (by with_reducible repeat (first | exact zS .. | apply zO)) (by rfl) | apply Sels.own (by with_reducible repeat (first | exact Sel.head | apply Sel.tail)))) ?_
      rintro r m _ ⟨S1, rfl⟩ hS
      simp only [zC, zN] at hS
      obtain ⟨A1, c1, rfl, _⟩ := hS.shape
      have hS := hS.tail
      refine ⟨_, rfl, ?_⟩
      refine RL.pure T_ok 2 rfl ?_
      by_cases g1 : (vclean vec).length ≤ 16384
      rotate_left
      · refine RL.eqv (v' := .bool false) (congrArg _ (decide_eq_false (by omega))) ?_
        refine RL.A1 T_ok rfl ?_
        exact RL.N1 (QN.cutEnd false (Sub.C1 rfl (Sub.C1 rfl (Sub.C1 rfl (Sub.C1 rfl (Sub.C1 rfl (Sub.C1 rfl Sub.nil)))))) ⟨by rw [decide_eq_false g1]; rfl, hS⟩)
      refine RL.eqv (v' := .bool true) (congrArg _ (decide_eq_true (by omega))) ?_
      refine RL.pure T_ok 2 rfl ?_
      refine RL.loadM T_ok hS rfl rfl rfl (by with_reducible repeat (first | exact zS .. | apply zO)) (by rfl) (by rfl) ?_
      refine RL.callM (fi := []) (ca := []) hS (turnsF_s _ turns (by omega)) rfl rfl rfl rfl (by repeat (first | with_reducible exact Sels.nil | apply Sels.ro (by with_reducible repeat (first | exact zS .. | apply zO)) (by rfl) | apply Sels.own (by with_reducible repeat (first | exact Sel.head | apply Sel.tail)))) ?_
      rintro r m _ ⟨_, S2, rfl⟩ hS
      simp only [zC, zN] at hS
      obtain ⟨A2, c2, rfl, _⟩ := hS.shape
      have hS := hS.tail
      refine ⟨_, rfl, ?_⟩
      refine RL.pure T_ok 2 rfl ?_
      by_cases g2 : (tnorm turns).length ≤ 16384
      rotate_left
      · refine RL.eqv (v' := .bool false) (congrArg _ (decide_eq_false (by omega))) ?_
        refine RL.A1 T_ok rfl ?_
        exact RL.N1 (QN.cutEnd false (Sub.C1 rfl (Sub.C1 rfl (Sub.C1 rfl (Sub.C1 rfl (Sub.C1 rfl (Sub.C1 rfl Sub.nil)))))) ⟨by rw [decide_eq_false g2, Bool.and_false], hS⟩)
      refine RL.eqv (v' := .bool true) (congrArg _ (decide_eq_true (by omega))) ?_
      refine RL.A1 T_ok rfl ?_
      exact RL.N1 (QN.cutEnd true (Sub.C1 rfl (Sub.C1 rfl (Sub.C1 rfl (Sub.C1 rfl (Sub.C1 rfl (Sub.C1 rfl Sub.nil)))))) ⟨by rw [decide_eq_true g1, decide_eq_true g2]; rfl, hS⟩)
    · rintro q m ⟨hq, hS⟩
      repeat (first | refine RL.autoP T_ok rfl rfl ?_ | refine RL.loadM T_ok hS rfl rfl rfl (by with_reducible repeat (first | exact zS .. | apply zO)) (by rfl) (by rfl) ?_ | refine RL.lsM T_ok hS rfl rfl rfl (by with_reducible repeat (first | exact zS .. | apply zO)) (by rfl) (by rfl) (by rfl) ?_ | (refine RL.N1 ?_; (with_reducible repeat (first | refine QN.B1 ?_ | refine QN.N1 ?_))) | with_reducible refine WP.S1 ?_ | with_reducible refine WP.B1 ?_ | with_reducible refine WP.R1 ?_ | (refine WP.skip ?_; (with_reducible repeat (first | refine QN.B1 ?_ | refine QN.N1 ?_))) | refine WP.condT rfl ?_ | refine WP.condF rfl ?_)
      refine WP.drawS [blkA b1 27 [.int .i64 1, .int .u64 c, .int .u64 n, .string (str room), (.slice vA vec.length vc), (.slice tA turns.length tc), .slice bA b.length bc]] [] hS (by repeat (first | exact AllIn.nil | refine AllIn.cons (by repeat (first | with_reducible exact zS .. | exact zS .. | with_reducible apply zO)) ?_)) (by kernel_rfl) (by with_reducible repeat (first | exact PanicOk.body | refine PanicOk.then_ ?_ | refine PanicOk.block_ ?_)) (fun hQ => ?_)
      refine RH.pure T_ok hQ [0] (by kernel_rfl) rfl ?_
      refine RH.loadM T_ok hQ 1 rfl (by kernel_rfl) rfl rfl rfl (by with_reducible repeat (first | exact zS .. | apply zO)) (by rfl) (by rfl) ?_
      refine RH.pure T_ok hQ [2] (by kernel_rfl) rfl ?_
      refine RH.loadM T_ok hQ 3 rfl (by kernel_rfl) rfl rfl rfl (by with_reducible repeat (first | exact zS .. | apply zO)) (by rfl) (by rfl) ?_
      refine RH.pure T_ok hQ [4] (by kernel_rfl) rfl ?_
      refine RH.only 5 rfl (by kernel_rfl) (fun _ => ?_)
      refine RL.storeM T_ok hS rfl rfl rfl rfl (by rfl) (by rfl) (by with_reducible repeat (first | exact Rep.head | apply Rep.tail)) (by rfl) ?_; (try clear hS); intro m hS
      refine RL.N1 (RH.contM hS (by repeat (first | exact AllIn.nil | refine AllIn.cons (by repeat (first | with_reducible exact zS .. | exact zS .. | with_reducible apply zO)) ?_)) ?_)
      refine RH.pure T_ok hQ [6] (by kernel_rfl) rfl ?_
      refine RH.only 7 rfl (by kernel_rfl) (fun _ => ?_)
      refine RL.storeM T_ok hS rfl rfl rfl rfl (by rfl) (by rfl) (by with_reducible repeat (first | exact Rep.head | apply Rep.tail)) (by rfl) ?_; (try clear hS); intro m hS
      refine RL.N1 (RH.contM hS (by repeat (first | exact AllIn.nil | refine AllIn.cons (by repeat (first | with_reducible exact zS .. | exact zS .. | with_reducible apply zO)) ?_)) ?_)
      refine RH.done (by kernel_rfl) (fun _ => ?_)
      (with_reducible repeat (first | refine QN.B1 ?_ | refine QN.N1 ?_))
      repeat (first | refine RL.autoP T_ok rfl rfl ?_ | refine RL.loadM T_ok hS rfl rfl rfl (by with_reducible repeat (first | exact zS .. | apply zO)) (by rfl) (by rfl) ?_ | refine RL.lsM T_ok hS rfl rfl rfl (by with_reducible repeat (first | exact zS .. | apply zO)) (by rfl) (by rfl) (by rfl) ?_ | (refine RL.N1 ?_; (with_reducible repeat (first | refine QN.B1 ?_ | refine QN.N1 ?_))) | with_reducible refine WP.S1 ?_ | with_reducible refine WP.B1 ?_ | with_reducible refine WP.R1 ?_ | (refine WP.skip ?_; (with_reducible repeat (first | refine QN.B1 ?_ | refine QN.N1 ?_))) | refine WP.condT rfl ?_ | refine WP.condF rfl ?_)
      cases q
      · repeat (first | refine RL.autoP T_ok rfl rfl ?_ | refine RL.loadM T_ok hS rfl rfl rfl (by with_reducible repeat (first | exact zS .. | apply zO)) (by rfl) (by rfl) ?_ | refine RL.lsM T_ok hS rfl rfl rfl (by with_reducible repeat (first | exact zS .. | apply zO)) (by rfl) (by rfl) (by rfl) ?_ | (refine RL.N1 ?_; (with_reducible repeat (first | refine QN.B1 ?_ | refine QN.N1 ?_))) | with_reducible refine WP.S1 ?_ | with_reducible refine WP.B1 ?_ | with_reducible refine WP.R1 ?_ | (refine WP.skip ?_; (with_reducible repeat (first | refine QN.B1 ?_ | refine QN.N1 ?_))) | refine WP.condT rfl ?_ | refine WP.condF rfl ?_)
        refine RL.ssM T_ok hS rfl rfl rfl rfl rfl (by rfl) (by rfl) (by with_reducible repeat (first | exact Rep.head | apply Rep.tail)) (by rfl) ?_; (try clear hS); intro m hS
        repeat (first | refine RL.autoP T_ok rfl rfl ?_ | refine RL.loadM T_ok hS rfl rfl rfl (by with_reducible repeat (first | exact zS .. | apply zO)) (by rfl) (by rfl) ?_ | refine RL.lsM T_ok hS rfl rfl rfl (by with_reducible repeat (first | exact zS .. | apply zO)) (by rfl) (by rfl) (by rfl) ?_ | (refine RL.N1 ?_; (with_reducible repeat (first | refine QN.B1 ?_ | refine QN.N1 ?_))) | with_reducible refine WP.S1 ?_ | with_reducible refine WP.B1 ?_ | with_reducible refine WP.R1 ?_ | (refine WP.skip ?_; (with_reducible repeat (first | refine QN.B1 ?_ | refine QN.N1 ?_))) | refine WP.condT rfl ?_ | refine WP.condF rfl ?_)
        refine WP.ret ?_; (with_reducible repeat (first | refine QN.tr ?_ | refine QN.br ?_))
        refine QN.retCT T_ok hS rfl rfl rfl rfl (by repeat (first | exact zS .. | with_reducible apply zO)) ⟨_, rfl, _, ⟨(.slice vA vec.length vc), (.slice tA turns.length tc), (.slice none 0 0), congrArg (fun q => Value.tuple #[_, .bool q]) (by show _ = Msg.right txt ⟨1, c, n, room, vec, turns, b⟩; unfold Msg.right; dsimp only; rw [if_pos rfl]; unfold Msg.sets; rw [← hq, Bool.false_and, Bool.false_and]), rfl⟩, ?_⟩
        have hS := ((hS.nilRo 2 (by omega)).nilRo 4 (by omega)).nilRo 1 (by omega)
        exact hS.ros (L := [roA 2 (.slice vA vec.length vc) (vec.flatMap cC), roA 4 (.slice tA turns.length tc) (turns.flatMap tC), roA 1 (.slice none 0 0) []]) (by repeat (first | exact AllIn.nil | refine AllIn.cons (by repeat (first | with_reducible exact zS .. | exact zS .. | with_reducible apply zO)) ?_)) rfl
      repeat (first | refine RL.autoP T_ok rfl rfl ?_ | refine RL.loadM T_ok hS rfl rfl rfl (by with_reducible repeat (first | exact zS .. | apply zO)) (by rfl) (by rfl) ?_ | refine RL.lsM T_ok hS rfl rfl rfl (by with_reducible repeat (first | exact zS .. | apply zO)) (by rfl) (by rfl) (by rfl) ?_ | (refine RL.N1 ?_; (with_reducible repeat (first | refine QN.B1 ?_ | refine QN.N1 ?_))) | with_reducible refine WP.S1 ?_ | with_reducible refine WP.B1 ?_ | with_reducible refine WP.R1 ?_ | (refine WP.skip ?_; (with_reducible repeat (first | refine QN.B1 ?_ | refine QN.N1 ?_))) | refine WP.condT rfl ?_ | refine WP.condF rfl ?_)
      refine RL.callM (fi := []) (ca := []) hS (mnumber_s c) rfl rfl rfl rfl (by repeat (first | with_reducible exact Sels.nil | apply Sels.ro (by with_reducible repeat (first | exact zS .. | apply zO)) (by rfl) | apply Sels.own (by with_reducible repeat (first | exact Sel.head | apply Sel.tail)))) ?_
      (try clear hS); rintro _ m _ ⟨rfl, rfl⟩ hS; (try simp only [zC, zN] at hS); refine ⟨_, rfl, ?_⟩
      cases hn : num c
      · repeat (first | refine RL.autoP T_ok rfl rfl ?_ | refine RL.loadM T_ok hS rfl rfl rfl (by with_reducible repeat (first | exact zS .. | apply zO)) (by rfl) (by rfl) ?_ | refine RL.lsM T_ok hS rfl rfl rfl (by with_reducible repeat (first | exact zS .. | apply zO)) (by rfl) (by rfl) (by rfl) ?_ | (refine RL.N1 ?_; (with_reducible repeat (first | refine QN.B1 ?_ | refine QN.N1 ?_))) | with_reducible refine WP.S1 ?_ | with_reducible refine WP.B1 ?_ | with_reducible refine WP.R1 ?_ | (refine WP.skip ?_; (with_reducible repeat (first | refine QN.B1 ?_ | refine QN.N1 ?_))) | refine WP.condT rfl ?_ | refine WP.condF rfl ?_)
        refine RL.ssM T_ok hS rfl rfl rfl rfl rfl (by rfl) (by rfl) (by with_reducible repeat (first | exact Rep.head | apply Rep.tail)) (by rfl) ?_; (try clear hS); intro m hS
        repeat (first | refine RL.autoP T_ok rfl rfl ?_ | refine RL.loadM T_ok hS rfl rfl rfl (by with_reducible repeat (first | exact zS .. | apply zO)) (by rfl) (by rfl) ?_ | refine RL.lsM T_ok hS rfl rfl rfl (by with_reducible repeat (first | exact zS .. | apply zO)) (by rfl) (by rfl) (by rfl) ?_ | (refine RL.N1 ?_; (with_reducible repeat (first | refine QN.B1 ?_ | refine QN.N1 ?_))) | with_reducible refine WP.S1 ?_ | with_reducible refine WP.B1 ?_ | with_reducible refine WP.R1 ?_ | (refine WP.skip ?_; (with_reducible repeat (first | refine QN.B1 ?_ | refine QN.N1 ?_))) | refine WP.condT rfl ?_ | refine WP.condF rfl ?_)
        refine WP.ret ?_; (with_reducible repeat (first | refine QN.tr ?_ | refine QN.br ?_))
        refine QN.retCT T_ok hS rfl rfl rfl rfl (by repeat (first | exact zS .. | with_reducible apply zO)) ⟨_, rfl, _, ⟨(.slice vA vec.length vc), (.slice tA turns.length tc), (.slice none 0 0), congrArg (fun q => Value.tuple #[_, .bool q]) (by show _ = Msg.right txt ⟨1, c, n, room, vec, turns, b⟩; unfold Msg.right; dsimp only; rw [if_pos rfl]; unfold Msg.sets; rw [← hq, hn, Bool.and_false, Bool.false_and]), rfl⟩, ?_⟩
        have hS := ((hS.nilRo 2 (by omega)).nilRo 4 (by omega)).nilRo 1 (by omega)
        exact hS.ros (L := [roA 2 (.slice vA vec.length vc) (vec.flatMap cC), roA 4 (.slice tA turns.length tc) (turns.flatMap tC), roA 1 (.slice none 0 0) []]) (by repeat (first | exact AllIn.nil | refine AllIn.cons (by repeat (first | with_reducible exact zS .. | exact zS .. | with_reducible apply zO)) ?_)) rfl
      repeat (first | refine RL.autoP T_ok rfl rfl ?_ | refine RL.loadM T_ok hS rfl rfl rfl (by with_reducible repeat (first | exact zS .. | apply zO)) (by rfl) (by rfl) ?_ | refine RL.lsM T_ok hS rfl rfl rfl (by with_reducible repeat (first | exact zS .. | apply zO)) (by rfl) (by rfl) (by rfl) ?_ | (refine RL.N1 ?_; (with_reducible repeat (first | refine QN.B1 ?_ | refine QN.N1 ?_))) | with_reducible refine WP.S1 ?_ | with_reducible refine WP.B1 ?_ | with_reducible refine WP.R1 ?_ | (refine WP.skip ?_; (with_reducible repeat (first | refine QN.B1 ?_ | refine QN.N1 ?_))) | refine WP.condT rfl ?_ | refine WP.condF rfl ?_)
      refine RL.callM (fi := []) (ca := []) hS (mname_s room (by omega)) rfl rfl rfl rfl (by repeat (first | with_reducible exact Sels.nil | apply Sels.ro (by with_reducible repeat (first | exact zS .. | apply zO)) (by rfl) | apply Sels.own (by with_reducible repeat (first | exact Sel.head | apply Sel.tail)))) ?_
      (try clear hS); rintro _ m _ ⟨rfl, rfl⟩ hS; (try simp only [zC, zN] at hS); refine ⟨_, rfl, ?_⟩
      repeat (first | refine RL.autoP T_ok rfl rfl ?_ | refine RL.loadM T_ok hS rfl rfl rfl (by with_reducible repeat (first | exact zS .. | apply zO)) (by rfl) (by rfl) ?_ | refine RL.lsM T_ok hS rfl rfl rfl (by with_reducible repeat (first | exact zS .. | apply zO)) (by rfl) (by rfl) (by rfl) ?_ | (refine RL.N1 ?_; (with_reducible repeat (first | refine QN.B1 ?_ | refine QN.N1 ?_))) | with_reducible refine WP.S1 ?_ | with_reducible refine WP.B1 ?_ | with_reducible refine WP.R1 ?_ | (refine WP.skip ?_; (with_reducible repeat (first | refine QN.B1 ?_ | refine QN.N1 ?_))) | refine WP.condT rfl ?_ | refine WP.condF rfl ?_)
      refine RL.ssM T_ok hS rfl rfl rfl rfl rfl (by rfl) (by rfl) (by with_reducible repeat (first | exact Rep.head | apply Rep.tail)) (by rfl) ?_; (try clear hS); intro m hS
      repeat (first | refine RL.autoP T_ok rfl rfl ?_ | refine RL.loadM T_ok hS rfl rfl rfl (by with_reducible repeat (first | exact zS .. | apply zO)) (by rfl) (by rfl) ?_ | refine RL.lsM T_ok hS rfl rfl rfl (by with_reducible repeat (first | exact zS .. | apply zO)) (by rfl) (by rfl) (by rfl) ?_ | (refine RL.N1 ?_; (with_reducible repeat (first | refine QN.B1 ?_ | refine QN.N1 ?_))) | with_reducible refine WP.S1 ?_ | with_reducible refine WP.B1 ?_ | with_reducible refine WP.R1 ?_ | (refine WP.skip ?_; (with_reducible repeat (first | refine QN.B1 ?_ | refine QN.N1 ?_))) | refine WP.condT rfl ?_ | refine WP.condF rfl ?_)
      refine WP.ret ?_; (with_reducible repeat (first | refine QN.tr ?_ | refine QN.br ?_))
      refine QN.retCT T_ok hS rfl rfl rfl rfl (by repeat (first | exact zS .. | with_reducible apply zO)) ⟨_, rfl, _, ⟨(.slice vA vec.length vc), (.slice tA turns.length tc), (.slice none 0 0), congrArg (fun q => Value.tuple #[_, .bool q]) (by show _ = Msg.right txt ⟨1, c, n, room, vec, turns, b⟩; unfold Msg.right; dsimp only; rw [if_pos rfl]; unfold Msg.sets; rw [← hq, hn, Bool.true_and, Bool.true_and]), rfl⟩, ?_⟩
      have hS := ((hS.nilRo 2 (by omega)).nilRo 4 (by omega)).nilRo 1 (by omega)
      exact hS.ros (L := [roA 2 (.slice vA vec.length vc) (vec.flatMap cC), roA 4 (.slice tA turns.length tc) (turns.flatMap tC), roA 1 (.slice none 0 0) []]) (by repeat (first | exact AllIn.nil | refine AllIn.cons (by repeat (first | with_reducible exact zS .. | exact zS .. | with_reducible apply zO)) ?_)) rfl
  by_cases k2 : K = 2
  · subst k2
    repeat (first | refine RL.autoP T_ok rfl rfl ?_ | refine RL.loadM T_ok hS rfl rfl rfl (by with_reducible repeat (first | exact zS .. | apply zO)) (by rfl) (by rfl) ?_ | refine RL.lsM T_ok hS rfl rfl rfl (by with_reducible repeat (first | exact zS .. | apply zO)) (by rfl) (by rfl) (by rfl) ?_ | (refine RL.N1 ?_; (with_reducible repeat (first | refine QN.B1 ?_ | refine QN.N1 ?_))) | with_reducible refine WP.S1 ?_ | with_reducible refine WP.B1 ?_ | with_reducible refine WP.R1 ?_ | (refine WP.skip ?_; (with_reducible repeat (first | refine QN.B1 ?_ | refine QN.N1 ?_))) | refine WP.condT rfl ?_ | refine WP.condF rfl ?_)
    refine WP.drawS [blkA b1 27 [.int .i64 2, .int .u64 c, .int .u64 n, .string (str room), (.slice vA vec.length vc), (.slice tA turns.length tc), .slice bA b.length bc]] [] hS (by repeat (first | exact AllIn.nil | refine AllIn.cons (by repeat (first | with_reducible exact zS .. | exact zS .. | with_reducible apply zO)) ?_)) (by kernel_rfl) (by with_reducible repeat (first | exact PanicOk.body | refine PanicOk.then_ ?_ | refine PanicOk.block_ ?_)) (fun hQ => ?_)
    refine RH.pure T_ok hQ [0] (by kernel_rfl) rfl ?_
    refine RH.loadM T_ok hQ 1 rfl (by kernel_rfl) rfl rfl rfl (by with_reducible repeat (first | exact zS .. | apply zO)) (by rfl) (by rfl) ?_
    refine RH.pure T_ok hQ [2] (by kernel_rfl) rfl ?_
    refine RH.loadM T_ok hQ 3 rfl (by kernel_rfl) rfl rfl rfl (by with_reducible repeat (first | exact zS .. | apply zO)) (by rfl) (by rfl) ?_
    refine RH.pure T_ok hQ [4] (by kernel_rfl) rfl ?_
    refine RH.only 5 rfl (by kernel_rfl) (fun _ => ?_)
    refine RL.storeM T_ok hS rfl rfl rfl rfl (by rfl) (by rfl) (by with_reducible repeat (first | exact Rep.head | apply Rep.tail)) (by rfl) ?_; (try clear hS); intro m hS
    refine RL.N1 (RH.contM hS (by repeat (first | exact AllIn.nil | refine AllIn.cons (by repeat (first | with_reducible exact zS .. | exact zS .. | with_reducible apply zO)) ?_)) ?_)
    refine RH.pure T_ok hQ [6] (by kernel_rfl) rfl ?_
    refine RH.only 7 rfl (by kernel_rfl) (fun _ => ?_)
    refine RL.storeM T_ok hS rfl rfl rfl rfl (by rfl) (by rfl) (by with_reducible repeat (first | exact Rep.head | apply Rep.tail)) (by rfl) ?_; (try clear hS); intro m hS
    refine RL.N1 (RH.contM hS (by repeat (first | exact AllIn.nil | refine AllIn.cons (by repeat (first | with_reducible exact zS .. | exact zS .. | with_reducible apply zO)) ?_)) ?_)
    refine RH.done (by kernel_rfl) (fun _ => ?_)
    (with_reducible repeat (first | refine QN.B1 ?_ | refine QN.N1 ?_))
    refine WP.cut (X := Bool) (fun q => [(1, .pointer (some ⟨b1, 0, none⟩)), (2, .pointer (some ⟨b2, 0, none⟩)), (3, .bool false), (4, .pointer (some ⟨b4, 0, none⟩)), (5, .bool q), (10, .int .i64 2)])
      (fun q m => q = (decide ((vclean vec).length ≤ 16384) && decide ((tnorm turns).length ≤ 16384)) ∧ Tr m0 PP X m [blkA b4 27 [.int .i64 2, .int .u64 0, .int .u64 0, .string (str []), (.slice vA vec.length vc), (.slice tA turns.length tc), .slice none 0 0], blkA b2 27 [.int .i64 0, .int .u64 0, .int .u64 0, .string (str []), .slice none 0 0, .slice none 0 0, .slice none 0 0], blkA b1 27 [.int .i64 2, .int .u64 c, .int .u64 n, .string (str room), (.slice vA vec.length vc), (.slice tA turns.length tc), .slice bA b.length bc], tabA, roA 2 (.slice vA vec.length vc) (vec.flatMap cC), roA 4 (.slice tA turns.length tc) (turns.flatMap tC), roA 1 (.slice bA b.length bc) (u8s b)]) ?_ ?_
    · (with_reducible repeat (first | refine WP.S1 ?_ | refine WP.B1 ?_ | refine WP.R1 ?_))
      refine RL.pure T_ok 1 rfl ?_
      refine RL.loadM T_ok hS rfl rfl rfl (by with_reducible repeat (first | exact zS .. | apply zO)) (by rfl) (by rfl) ?_
      refine RL.callM (fi := []) (ca := []) hS (vclean_s _ vec (by omega)) rfl rfl rfl rfl (by repeat (first | with_reducible exact Sels.nil | apply Sels.ro (by with_reducible repeat (first | exact zS .. | apply zO)) (by rfl) | apply Sels.own (by with_reducible repeat (first | exact Sel.head | apply Sel.tail)))) ?_
      rintro r m _ ⟨S1, rfl⟩ hS
      simp only [zC, zN] at hS
      obtain ⟨A1, c1, rfl, _⟩ := hS.shape
      have hS := hS.tail
      refine ⟨_, rfl, ?_⟩
      refine RL.pure T_ok 2 rfl ?_
      by_cases g1 : (vclean vec).length ≤ 16384
      rotate_left
      · refine RL.eqv (v' := .bool false) (congrArg _ (decide_eq_false (by omega))) ?_
        refine RL.A1 T_ok rfl ?_
        exact RL.N1 (QN.cutEnd false (Sub.C1 rfl (Sub.C1 rfl (Sub.C1 rfl (Sub.C1 rfl (Sub.C1 rfl (Sub.C1 rfl Sub.nil)))))) ⟨by rw [decide_eq_false g1]; rfl, hS⟩)
      refine RL.eqv (v' := .bool true) (congrArg _ (decide_eq_true (by omega))) ?_
      refine RL.pure T_ok 2 rfl ?_
      refine RL.loadM T_ok hS rfl rfl rfl (by with_reducible repeat (first | exact zS .. | apply zO)) (by rfl) (by rfl) ?_
      refine RL.callM (fi := []) (ca := []) hS (turnsF_s _ turns (by omega)) rfl rfl rfl rfl (by repeat (first | with_reducible exact Sels.nil | apply Sels.ro (by with_reducible repeat (first | exact zS .. | apply zO)) (by rfl) | apply Sels.own (by with_reducible repeat (first | exact Sel.head | apply Sel.tail)))) ?_
      rintro r m _ ⟨_, S2, rfl⟩ hS
      simp only [zC, zN] at hS
      obtain ⟨A2, c2, rfl, _⟩ := hS.shape
      have hS := hS.tail
      refine ⟨_, rfl, ?_⟩
      refine RL.pure T_ok 2 rfl ?_
      by_cases g2 : (tnorm turns).length ≤ 16384
      rotate_left
      · refine RL.eqv (v' := .bool false) (congrArg _ (decide_eq_false (by omega))) ?_
        refine RL.A1 T_ok rfl ?_
        exact RL.N1 (QN.cutEnd false (Sub.C1 rfl (Sub.C1 rfl (Sub.C1 rfl (Sub.C1 rfl (Sub.C1 rfl (Sub.C1 rfl Sub.nil)))))) ⟨by rw [decide_eq_false g2, Bool.and_false], hS⟩)
      refine RL.eqv (v' := .bool true) (congrArg _ (decide_eq_true (by omega))) ?_
      refine RL.A1 T_ok rfl ?_
      exact RL.N1 (QN.cutEnd true (Sub.C1 rfl (Sub.C1 rfl (Sub.C1 rfl (Sub.C1 rfl (Sub.C1 rfl (Sub.C1 rfl Sub.nil)))))) ⟨by rw [decide_eq_true g1, decide_eq_true g2]; rfl, hS⟩)
    · rintro q m ⟨hq, hS⟩
      repeat (first | refine RL.autoP T_ok rfl rfl ?_ | refine RL.loadM T_ok hS rfl rfl rfl (by with_reducible repeat (first | exact zS .. | apply zO)) (by rfl) (by rfl) ?_ | refine RL.lsM T_ok hS rfl rfl rfl (by with_reducible repeat (first | exact zS .. | apply zO)) (by rfl) (by rfl) (by rfl) ?_ | (refine RL.N1 ?_; (with_reducible repeat (first | refine QN.B1 ?_ | refine QN.N1 ?_))) | with_reducible refine WP.S1 ?_ | with_reducible refine WP.B1 ?_ | with_reducible refine WP.R1 ?_ | (refine WP.skip ?_; (with_reducible repeat (first | refine QN.B1 ?_ | refine QN.N1 ?_))) | refine WP.condT rfl ?_ | refine WP.condF rfl ?_)
      refine RL.ssM T_ok hS rfl rfl rfl rfl rfl (by rfl) (by rfl) (by with_reducible repeat (first | exact Rep.head | apply Rep.tail)) (by rfl) ?_; (try clear hS); intro m hS
      repeat (first | refine RL.autoP T_ok rfl rfl ?_ | refine RL.loadM T_ok hS rfl rfl rfl (by with_reducible repeat (first | exact zS .. | apply zO)) (by rfl) (by rfl) ?_ | refine RL.lsM T_ok hS rfl rfl rfl (by with_reducible repeat (first | exact zS .. | apply zO)) (by rfl) (by rfl) (by rfl) ?_ | (refine RL.N1 ?_; (with_reducible repeat (first | refine QN.B1 ?_ | refine QN.N1 ?_))) | with_reducible refine WP.S1 ?_ | with_reducible refine WP.B1 ?_ | with_reducible refine WP.R1 ?_ | (refine WP.skip ?_; (with_reducible repeat (first | refine QN.B1 ?_ | refine QN.N1 ?_))) | refine WP.condT rfl ?_ | refine WP.condF rfl ?_)
      refine WP.ret ?_; (with_reducible repeat (first | refine QN.tr ?_ | refine QN.br ?_))
      refine QN.retCT T_ok hS rfl rfl rfl rfl (by repeat (first | exact zS .. | with_reducible apply zO)) ⟨_, rfl, _, ⟨(.slice vA vec.length vc), (.slice tA turns.length tc), (.slice none 0 0), congrArg (fun q => Value.tuple #[_, .bool q]) (by show _ = Msg.right txt ⟨2, c, n, room, vec, turns, b⟩; unfold Msg.right; dsimp only; rw [if_neg (by decide), if_pos rfl]; unfold Msg.sets; rw [← hq]), rfl⟩, ?_⟩
      have hS := ((hS.nilRo 2 (by omega)).nilRo 4 (by omega)).nilRo 1 (by omega)
      exact hS.ros (L := [roA 2 (.slice vA vec.length vc) (vec.flatMap cC), roA 4 (.slice tA turns.length tc) (turns.flatMap tC), roA 1 (.slice none 0 0) []]) (by repeat (first | exact AllIn.nil | refine AllIn.cons (by repeat (first | with_reducible exact zS .. | exact zS .. | with_reducible apply zO)) ?_)) rfl
  by_cases k3 : K = 3
  · subst k3
    repeat (first | refine RL.autoP T_ok rfl rfl ?_ | refine RL.loadM T_ok hS rfl rfl rfl (by with_reducible repeat (first | exact zS .. | apply zO)) (by rfl) (by rfl) ?_ | refine RL.lsM T_ok hS rfl rfl rfl (by with_reducible repeat (first | exact zS .. | apply zO)) (by rfl) (by rfl) (by rfl) ?_ | (refine RL.N1 ?_; (with_reducible repeat (first | refine QN.B1 ?_ | refine QN.N1 ?_))) | with_reducible refine WP.S1 ?_ | with_reducible refine WP.B1 ?_ | with_reducible refine WP.R1 ?_ | (refine WP.skip ?_; (with_reducible repeat (first | refine QN.B1 ?_ | refine QN.N1 ?_))) | refine WP.condT rfl ?_ | refine WP.condF rfl ?_)
    refine WP.drawS [blkA b1 27 [.int .i64 3, .int .u64 c, .int .u64 n, .string (str room), (.slice vA vec.length vc), (.slice tA turns.length tc), .slice bA b.length bc]] [] hS (by repeat (first | exact AllIn.nil | refine AllIn.cons (by repeat (first | with_reducible exact zS .. | exact zS .. | with_reducible apply zO)) ?_)) (by kernel_rfl) (by with_reducible repeat (first | exact PanicOk.body | refine PanicOk.then_ ?_ | refine PanicOk.block_ ?_)) (fun hQ => ?_)
    refine RH.pure T_ok hQ [0] (by kernel_rfl) rfl ?_
    refine RH.loadM T_ok hQ 1 rfl (by kernel_rfl) rfl rfl rfl (by with_reducible repeat (first | exact zS .. | apply zO)) (by rfl) (by rfl) ?_
    refine RH.pure T_ok hQ [2] (by kernel_rfl) rfl ?_
    refine RH.loadM T_ok hQ 3 rfl (by kernel_rfl) rfl rfl rfl (by with_reducible repeat (first | exact zS .. | apply zO)) (by rfl) (by rfl) ?_
    refine RH.pure T_ok hQ [4] (by kernel_rfl) rfl ?_
    refine RH.only 5 rfl (by kernel_rfl) (fun _ => ?_)
    refine RL.storeM T_ok hS rfl rfl rfl rfl (by rfl) (by rfl) (by with_reducible repeat (first | exact Rep.head | apply Rep.tail)) (by rfl) ?_; (try clear hS); intro m hS
    refine RL.N1 (RH.contM hS (by repeat (first | exact AllIn.nil | refine AllIn.cons (by repeat (first | with_reducible exact zS .. | exact zS .. | with_reducible apply zO)) ?_)) ?_)
    refine RH.pure T_ok hQ [6] (by kernel_rfl) rfl ?_
    refine RH.only 7 rfl (by kernel_rfl) (fun _ => ?_)
    refine RL.storeM T_ok hS rfl rfl rfl rfl (by rfl) (by rfl) (by with_reducible repeat (first | exact Rep.head | apply Rep.tail)) (by rfl) ?_; (try clear hS); intro m hS
    refine RL.N1 (RH.contM hS (by repeat (first | exact AllIn.nil | refine AllIn.cons (by repeat (first | with_reducible exact zS .. | exact zS .. | with_reducible apply zO)) ?_)) ?_)
    refine RH.done (by kernel_rfl) (fun _ => ?_)
    (with_reducible repeat (first | refine QN.B1 ?_ | refine QN.N1 ?_))
    repeat (first | refine RL.autoP T_ok rfl rfl ?_ | refine RL.loadM T_ok hS rfl rfl rfl (by with_reducible repeat (first | exact zS .. | apply zO)) (by rfl) (by rfl) ?_ | refine RL.lsM T_ok hS rfl rfl rfl (by with_reducible repeat (first | exact zS .. | apply zO)) (by rfl) (by rfl) (by rfl) ?_ | (refine RL.N1 ?_; (with_reducible repeat (first | refine QN.B1 ?_ | refine QN.N1 ?_))) | with_reducible refine WP.S1 ?_ | with_reducible refine WP.B1 ?_ | with_reducible refine WP.R1 ?_ | (refine WP.skip ?_; (with_reducible repeat (first | refine QN.B1 ?_ | refine QN.N1 ?_))) | refine WP.condT rfl ?_ | refine WP.condF rfl ?_)
    refine WP.drawS [blkA b1 27 [.int .i64 3, .int .u64 c, .int .u64 n, .string (str room), (.slice vA vec.length vc), (.slice tA turns.length tc), .slice bA b.length bc], blkA b4 27 [.int .i64 3, .int .u64 0, .int .u64 n, .string (str []), .slice none 0 0, .slice none 0 0, (.slice bA b.length bc)]] [] hS (by repeat (first | exact AllIn.nil | refine AllIn.cons (by repeat (first | with_reducible exact zS .. | exact zS .. | with_reducible apply zO)) ?_)) (by kernel_rfl) (by with_reducible repeat (first | exact PanicOk.body | refine PanicOk.then_ ?_ | refine PanicOk.block_ ?_)) (fun hQ => ?_)
    refine RH.loadSegM T_ok hQ 0 rfl (by kernel_rfl) rfl rfl rfl (by with_reducible repeat (first | exact zS .. | apply zO)) (by rfl) (by rfl) (by rfl) ?_
    refine RH.pure T_ok hQ [1] (by kernel_rfl) rfl ?_
    refine RH.loadM T_ok hQ 2 rfl (by kernel_rfl) rfl rfl rfl (by with_reducible repeat (first | exact zS .. | apply zO)) (by rfl) (by rfl) ?_
    refine RH.pure T_ok hQ [3] (by kernel_rfl) rfl ?_
    by_cases g1 : n ≤ 9007199254740991
    rotate_left
    · refine RH.eqv (v' := .bool false) (congrArg _ (decide_eq_false (by omega))) ?_
      refine RH.pure T_ok hQ [4, 5, 6, 7, 8, 9] (by kernel_rfl) rfl ?_
      refine RH.only 10 rfl (by kernel_rfl) (fun _ => ?_)
      refine RL.ssM T_ok hS rfl rfl rfl rfl rfl (by rfl) (by rfl) (by with_reducible repeat (first | exact Rep.head | apply Rep.tail)) (by rfl) ?_; (try clear hS); intro m hS
      refine RL.N1 (RH.contM hS (by repeat (first | exact AllIn.nil | refine AllIn.cons (by repeat (first | with_reducible exact zS .. | exact zS .. | with_reducible apply zO)) ?_)) ?_)
      refine RH.pure T_ok hQ [11] (by kernel_rfl) rfl ?_
      refine RH.done (by kernel_rfl) (fun _ => ?_)
      (with_reducible repeat (first | refine QN.B1 ?_ | refine QN.N1 ?_))
      refine WP.ret ?_; (with_reducible repeat (first | refine QN.tr ?_ | refine QN.br ?_))
      refine QN.retCT T_ok hS rfl rfl rfl rfl (by repeat (first | exact zS .. | with_reducible apply zO)) ⟨_, rfl, _, ⟨(.slice none 0 0), (.slice none 0 0), (.slice bA b.length bc), congrArg (fun q => Value.tuple #[_, .bool q]) (by show _ = Msg.right txt ⟨3, c, n, room, vec, turns, b⟩; unfold Msg.right; dsimp only; rw [if_neg (by decide), if_neg (by decide), if_pos rfl, decide_eq_false g1, Bool.false_and]), rfl⟩, ?_⟩
      have hS := ((hS.nilRo 2 (by omega)).nilRo 4 (by omega)).nilRo 1 (by omega)
      exact hS.ros (L := [roA 2 (.slice none 0 0) [], roA 4 (.slice none 0 0) [], roA 1 (.slice bA b.length bc) (u8s b)]) (by repeat (first | exact AllIn.nil | refine AllIn.cons (by repeat (first | with_reducible exact zS .. | exact zS .. | with_reducible apply zO)) ?_)) rfl
    refine RH.eqv (v' := .bool true) (congrArg _ (decide_eq_true (by omega))) ?_
    refine RH.pure T_ok hQ [4, 5] (by kernel_rfl) rfl ?_
    refine RH.loadM T_ok hQ 6 rfl (by kernel_rfl) rfl rfl rfl (by with_reducible repeat (first | exact zS .. | apply zO)) (by rfl) (by rfl) ?_
    refine RH.pure T_ok hQ [7, 8, 9] (by kernel_rfl) rfl ?_
    refine RH.only 10 rfl (by kernel_rfl) (fun _ => ?_)
    refine RL.ssM T_ok hS rfl rfl rfl rfl rfl (by rfl) (by rfl) (by with_reducible repeat (first | exact Rep.head | apply Rep.tail)) (by rfl) ?_; (try clear hS); intro m hS
    refine RL.N1 (RH.contM hS (by repeat (first | exact AllIn.nil | refine AllIn.cons (by repeat (first | with_reducible exact zS .. | exact zS .. | with_reducible apply zO)) ?_)) ?_)
    refine RH.pure T_ok hQ [11] (by kernel_rfl) rfl ?_
    refine RH.done (by kernel_rfl) (fun _ => ?_)
    (with_reducible repeat (first | refine QN.B1 ?_ | refine QN.N1 ?_))
    refine WP.ret ?_; (with_reducible repeat (first | refine QN.tr ?_ | refine QN.br ?_))
    refine QN.retCT T_ok hS rfl rfl rfl rfl (by repeat (first | exact zS .. | with_reducible apply zO)) ⟨_, rfl, _, ⟨(.slice none 0 0), (.slice none 0 0), (.slice bA b.length bc), congrArg (fun q => Value.tuple #[_, .bool q]) (by show _ = Msg.right txt ⟨3, c, n, room, vec, turns, b⟩; unfold Msg.right; dsimp only; rw [if_neg (by decide), if_neg (by decide), if_pos rfl, decide_eq_true g1, Bool.true_and]; exact decide_eq_decide.2 (by omega)), rfl⟩, ?_⟩
    have hS := ((hS.nilRo 2 (by omega)).nilRo 4 (by omega)).nilRo 1 (by omega)
    exact hS.ros (L := [roA 2 (.slice none 0 0) [], roA 4 (.slice none 0 0) [], roA 1 (.slice bA b.length bc) (u8s b)]) (by repeat (first | exact AllIn.nil | refine AllIn.cons (by repeat (first | with_reducible exact zS .. | exact zS .. | with_reducible apply zO)) ?_)) rfl
  by_cases k4 : K = 4
  · subst k4
    repeat (first | refine RL.autoP T_ok rfl rfl ?_ | refine RL.loadM T_ok hS rfl rfl rfl (by with_reducible repeat (first | exact zS .. | apply zO)) (by rfl) (by rfl) ?_ | refine RL.lsM T_ok hS rfl rfl rfl (by with_reducible repeat (first | exact zS .. | apply zO)) (by rfl) (by rfl) (by rfl) ?_ | (refine RL.N1 ?_; (with_reducible repeat (first | refine QN.B1 ?_ | refine QN.N1 ?_))) | with_reducible refine WP.S1 ?_ | with_reducible refine WP.B1 ?_ | with_reducible refine WP.R1 ?_ | (refine WP.skip ?_; (with_reducible repeat (first | refine QN.B1 ?_ | refine QN.N1 ?_))) | refine WP.condT rfl ?_ | refine WP.condF rfl ?_)
    refine RL.storeM T_ok hS rfl rfl rfl rfl (by rfl) (by rfl) (by with_reducible repeat (first | exact Rep.head | apply Rep.tail)) (by rfl) ?_; (try clear hS); intro m hS
    repeat (first | refine RL.autoP T_ok rfl rfl ?_ | refine RL.loadM T_ok hS rfl rfl rfl (by with_reducible repeat (first | exact zS .. | apply zO)) (by rfl) (by rfl) ?_ | refine RL.lsM T_ok hS rfl rfl rfl (by with_reducible repeat (first | exact zS .. | apply zO)) (by rfl) (by rfl) (by rfl) ?_ | (refine RL.N1 ?_; (with_reducible repeat (first | refine QN.B1 ?_ | refine QN.N1 ?_))) | with_reducible refine WP.S1 ?_ | with_reducible refine WP.B1 ?_ | with_reducible refine WP.R1 ?_ | (refine WP.skip ?_; (with_reducible repeat (first | refine QN.B1 ?_ | refine QN.N1 ?_))) | refine WP.condT rfl ?_ | refine WP.condF rfl ?_)
    refine WP.drawS [blkA b1 27 [.int .i64 4, .int .u64 c, .int .u64 n, .string (str room), (.slice vA vec.length vc), (.slice tA turns.length tc), .slice bA b.length bc], blkA b4 27 [.int .i64 4, .int .u64 0, .int .u64 n, .string (str []), .slice none 0 0, .slice none 0 0, .slice none 0 0]] [] hS (by repeat (first | exact AllIn.nil | refine AllIn.cons (by repeat (first | with_reducible exact zS .. | exact zS .. | with_reducible apply zO)) ?_)) (by kernel_rfl) (by with_reducible repeat (first | exact PanicOk.body | refine PanicOk.then_ ?_ | refine PanicOk.block_ ?_)) (fun hQ => ?_)
    refine RH.loadSegM T_ok hQ 0 rfl (by kernel_rfl) rfl rfl rfl (by with_reducible repeat (first | exact zS .. | apply zO)) (by rfl) (by rfl) (by rfl) ?_
    refine RH.pure T_ok hQ [1] (by kernel_rfl) rfl ?_
    refine RH.loadM T_ok hQ 2 rfl (by kernel_rfl) rfl rfl rfl (by with_reducible repeat (first | exact zS .. | apply zO)) (by rfl) (by rfl) ?_
    refine RH.only 3 rfl (by kernel_rfl) (fun _ => ?_)
    refine RL.callM (fi := []) (ca := []) hS (mnumber_s n) rfl rfl rfl rfl (by repeat (first | with_reducible exact Sels.nil | apply Sels.ro (by with_reducible repeat (first | exact zS .. | apply zO)) (by rfl) | apply Sels.own (by with_reducible repeat (first | exact Sel.head | apply Sel.tail)))) ?_
    (try clear hS); rintro _ m _ ⟨rfl, rfl⟩ hS; (try simp only [zC, zN] at hS); refine ⟨_, rfl, ?_⟩
    refine RL.N1 (RH.contM hS (by repeat (first | exact AllIn.nil | refine AllIn.cons (by repeat (first | with_reducible exact zS .. | exact zS .. | with_reducible apply zO)) ?_)) ?_)
    refine RH.only 4 rfl (by kernel_rfl) (fun _ => ?_)
    refine RL.ssM T_ok hS rfl rfl rfl rfl rfl (by rfl) (by rfl) (by with_reducible repeat (first | exact Rep.head | apply Rep.tail)) (by rfl) ?_; (try clear hS); intro m hS
    refine RL.N1 (RH.contM hS (by repeat (first | exact AllIn.nil | refine AllIn.cons (by repeat (first | with_reducible exact zS .. | exact zS .. | with_reducible apply zO)) ?_)) ?_)
    refine RH.pure T_ok hQ [5] (by kernel_rfl) rfl ?_
    refine RH.done (by kernel_rfl) (fun _ => ?_)
    (with_reducible repeat (first | refine QN.B1 ?_ | refine QN.N1 ?_))
    refine WP.ret ?_; (with_reducible repeat (first | refine QN.tr ?_ | refine QN.br ?_))
    refine QN.retCT T_ok hS rfl rfl rfl rfl (by repeat (first | exact zS .. | with_reducible apply zO)) ⟨_, rfl, _, ⟨(.slice none 0 0), (.slice none 0 0), (.slice none 0 0), congrArg (fun q => Value.tuple #[_, .bool q]) (by show _ = Msg.right txt ⟨4, c, n, room, vec, turns, b⟩; unfold Msg.right; dsimp only; rw [if_neg (by decide), if_neg (by decide), if_neg (by decide), if_pos rfl]), rfl⟩, ?_⟩
    have hS := ((hS.nilRo 2 (by omega)).nilRo 4 (by omega)).nilRo 1 (by omega)
    exact hS.ros (L := [roA 2 (.slice none 0 0) [], roA 4 (.slice none 0 0) [], roA 1 (.slice none 0 0) []]) (by repeat (first | exact AllIn.nil | refine AllIn.cons (by repeat (first | with_reducible exact zS .. | exact zS .. | with_reducible apply zO)) ?_)) rfl
  by_cases k6 : K = 6
  · subst k6
    repeat (first | refine RL.autoP T_ok rfl rfl ?_ | refine RL.loadM T_ok hS rfl rfl rfl (by with_reducible repeat (first | exact zS .. | apply zO)) (by rfl) (by rfl) ?_ | refine RL.lsM T_ok hS rfl rfl rfl (by with_reducible repeat (first | exact zS .. | apply zO)) (by rfl) (by rfl) (by rfl) ?_ | (refine RL.N1 ?_; (with_reducible repeat (first | refine QN.B1 ?_ | refine QN.N1 ?_))) | with_reducible refine WP.S1 ?_ | with_reducible refine WP.B1 ?_ | with_reducible refine WP.R1 ?_ | (refine WP.skip ?_; (with_reducible repeat (first | refine QN.B1 ?_ | refine QN.N1 ?_))) | refine WP.condT rfl ?_ | refine WP.condF rfl ?_)
    refine RL.storeM T_ok hS rfl rfl rfl rfl (by rfl) (by rfl) (by with_reducible repeat (first | exact Rep.head | apply Rep.tail)) (by rfl) ?_; (try clear hS); intro m hS
    repeat (first | refine RL.autoP T_ok rfl rfl ?_ | refine RL.loadM T_ok hS rfl rfl rfl (by with_reducible repeat (first | exact zS .. | apply zO)) (by rfl) (by rfl) ?_ | refine RL.lsM T_ok hS rfl rfl rfl (by with_reducible repeat (first | exact zS .. | apply zO)) (by rfl) (by rfl) (by rfl) ?_ | (refine RL.N1 ?_; (with_reducible repeat (first | refine QN.B1 ?_ | refine QN.N1 ?_))) | with_reducible refine WP.S1 ?_ | with_reducible refine WP.B1 ?_ | with_reducible refine WP.R1 ?_ | (refine WP.skip ?_; (with_reducible repeat (first | refine QN.B1 ?_ | refine QN.N1 ?_))) | refine WP.condT rfl ?_ | refine WP.condF rfl ?_)
    refine WP.drawS [blkA b1 27 [.int .i64 6, .int .u64 c, .int .u64 n, .string (str room), (.slice vA vec.length vc), (.slice tA turns.length tc), .slice bA b.length bc], blkA b4 27 [.int .i64 6, .int .u64 0, .int .u64 n, .string (str []), .slice none 0 0, .slice none 0 0, .slice none 0 0]] [] hS (by repeat (first | exact AllIn.nil | refine AllIn.cons (by repeat (first | with_reducible exact zS .. | exact zS .. | with_reducible apply zO)) ?_)) (by kernel_rfl) (by with_reducible repeat (first | exact PanicOk.body | refine PanicOk.then_ ?_ | refine PanicOk.block_ ?_)) (fun hQ => ?_)
    refine RH.loadSegM T_ok hQ 0 rfl (by kernel_rfl) rfl rfl rfl (by with_reducible repeat (first | exact zS .. | apply zO)) (by rfl) (by rfl) (by rfl) ?_
    refine RH.pure T_ok hQ [1] (by kernel_rfl) rfl ?_
    refine RH.loadM T_ok hQ 2 rfl (by kernel_rfl) rfl rfl rfl (by with_reducible repeat (first | exact zS .. | apply zO)) (by rfl) (by rfl) ?_
    refine RH.only 3 rfl (by kernel_rfl) (fun _ => ?_)
    refine RL.callM (fi := []) (ca := []) hS (mnumber_s n) rfl rfl rfl rfl (by repeat (first | with_reducible exact Sels.nil | apply Sels.ro (by with_reducible repeat (first | exact zS .. | apply zO)) (by rfl) | apply Sels.own (by with_reducible repeat (first | exact Sel.head | apply Sel.tail)))) ?_
    (try clear hS); rintro _ m _ ⟨rfl, rfl⟩ hS; (try simp only [zC, zN] at hS); refine ⟨_, rfl, ?_⟩
    refine RL.N1 (RH.contM hS (by repeat (first | exact AllIn.nil | refine AllIn.cons (by repeat (first | with_reducible exact zS .. | exact zS .. | with_reducible apply zO)) ?_)) ?_)
    refine RH.only 4 rfl (by kernel_rfl) (fun _ => ?_)
    refine RL.ssM T_ok hS rfl rfl rfl rfl rfl (by rfl) (by rfl) (by with_reducible repeat (first | exact Rep.head | apply Rep.tail)) (by rfl) ?_; (try clear hS); intro m hS
    refine RL.N1 (RH.contM hS (by repeat (first | exact AllIn.nil | refine AllIn.cons (by repeat (first | with_reducible exact zS .. | exact zS .. | with_reducible apply zO)) ?_)) ?_)
    refine RH.pure T_ok hQ [5] (by kernel_rfl) rfl ?_
    refine RH.done (by kernel_rfl) (fun _ => ?_)
    (with_reducible repeat (first | refine QN.B1 ?_ | refine QN.N1 ?_))
    refine WP.ret ?_; (with_reducible repeat (first | refine QN.tr ?_ | refine QN.br ?_))
    refine QN.retCT T_ok hS rfl rfl rfl rfl (by repeat (first | exact zS .. | with_reducible apply zO)) ⟨_, rfl, _, ⟨(.slice none 0 0), (.slice none 0 0), (.slice none 0 0), congrArg (fun q => Value.tuple #[_, .bool q]) (by show _ = Msg.right txt ⟨6, c, n, room, vec, turns, b⟩; unfold Msg.right; dsimp only; rw [if_neg (by decide), if_neg (by decide), if_neg (by decide), if_neg (by decide), if_neg (by decide), if_pos rfl]), rfl⟩, ?_⟩
    have hS := ((hS.nilRo 2 (by omega)).nilRo 4 (by omega)).nilRo 1 (by omega)
    exact hS.ros (L := [roA 2 (.slice none 0 0) [], roA 4 (.slice none 0 0) [], roA 1 (.slice none 0 0) []]) (by repeat (first | exact AllIn.nil | refine AllIn.cons (by repeat (first | with_reducible exact zS .. | exact zS .. | with_reducible apply zO)) ?_)) rfl
  by_cases k5 : K = 5
  · subst k5
    repeat (first | refine RL.autoP T_ok rfl rfl ?_ | refine RL.loadM T_ok hS rfl rfl rfl (by with_reducible repeat (first | exact zS .. | apply zO)) (by rfl) (by rfl) ?_ | refine RL.lsM T_ok hS rfl rfl rfl (by with_reducible repeat (first | exact zS .. | apply zO)) (by rfl) (by rfl) (by rfl) ?_ | (refine RL.N1 ?_; (with_reducible repeat (first | refine QN.B1 ?_ | refine QN.N1 ?_))) | with_reducible refine WP.S1 ?_ | with_reducible refine WP.B1 ?_ | with_reducible refine WP.R1 ?_ | (refine WP.skip ?_; (with_reducible repeat (first | refine QN.B1 ?_ | refine QN.N1 ?_))) | refine WP.condT rfl ?_ | refine WP.condF rfl ?_)
    refine RL.storeM T_ok hS rfl rfl rfl rfl (by rfl) (by rfl) (by with_reducible repeat (first | exact Rep.head | apply Rep.tail)) (by rfl) ?_; (try clear hS); intro m hS
    repeat (first | refine RL.autoP T_ok rfl rfl ?_ | refine RL.loadM T_ok hS rfl rfl rfl (by with_reducible repeat (first | exact zS .. | apply zO)) (by rfl) (by rfl) ?_ | refine RL.lsM T_ok hS rfl rfl rfl (by with_reducible repeat (first | exact zS .. | apply zO)) (by rfl) (by rfl) (by rfl) ?_ | (refine RL.N1 ?_; (with_reducible repeat (first | refine QN.B1 ?_ | refine QN.N1 ?_))) | with_reducible refine WP.S1 ?_ | with_reducible refine WP.B1 ?_ | with_reducible refine WP.R1 ?_ | (refine WP.skip ?_; (with_reducible repeat (first | refine QN.B1 ?_ | refine QN.N1 ?_))) | refine WP.condT rfl ?_ | refine WP.condF rfl ?_)
    refine WP.drawS [blkA b1 27 [.int .i64 5, .int .u64 c, .int .u64 n, .string (str room), (.slice vA vec.length vc), (.slice tA turns.length tc), .slice bA b.length bc], blkA b4 27 [.int .i64 5, .int .u64 0, .int .u64 0, .string (str []), .slice none 0 0, .slice none 0 0, (.slice bA b.length bc)]] [] hS (by repeat (first | exact AllIn.nil | refine AllIn.cons (by repeat (first | with_reducible exact zS .. | exact zS .. | with_reducible apply zO)) ?_)) (by kernel_rfl) (by with_reducible repeat (first | exact PanicOk.body | refine PanicOk.then_ ?_ | refine PanicOk.block_ ?_)) (fun hQ => ?_)
    refine RH.loadSegM T_ok hQ 0 rfl (by kernel_rfl) rfl rfl rfl (by with_reducible repeat (first | exact zS .. | apply zO)) (by rfl) (by rfl) (by rfl) ?_
    refine RH.pure T_ok hQ [1] (by kernel_rfl) rfl ?_
    refine RH.loadM T_ok hQ 2 rfl (by kernel_rfl) rfl rfl rfl (by with_reducible repeat (first | exact zS .. | apply zO)) (by rfl) (by rfl) ?_
    refine RH.pure T_ok hQ [3, 4] (by kernel_rfl) rfl ?_
    refine RH.only 5 rfl (by kernel_rfl) (fun _ => ?_)
    refine RL.ssM T_ok hS rfl rfl rfl rfl rfl (by rfl) (by rfl) (by with_reducible repeat (first | exact Rep.head | apply Rep.tail)) (by rfl) ?_; (try clear hS); intro m hS
    refine RL.N1 (RH.contM hS (by repeat (first | exact AllIn.nil | refine AllIn.cons (by repeat (first | with_reducible exact zS .. | exact zS .. | with_reducible apply zO)) ?_)) ?_)
    refine RH.pure T_ok hQ [6] (by kernel_rfl) rfl ?_
    refine RH.done (by kernel_rfl) (fun _ => ?_)
    (with_reducible repeat (first | refine QN.B1 ?_ | refine QN.N1 ?_))
    refine WP.ret ?_; (with_reducible repeat (first | refine QN.tr ?_ | refine QN.br ?_))
    refine QN.retCT T_ok hS rfl rfl rfl rfl (by repeat (first | exact zS .. | with_reducible apply zO)) ⟨_, rfl, _, ⟨(.slice none 0 0), (.slice none 0 0), (.slice bA b.length bc), congrArg (fun q => Value.tuple #[_, .bool q]) (by show _ = Msg.right txt ⟨5, c, n, room, vec, turns, b⟩; unfold Msg.right; dsimp only; rw [if_neg (by decide), if_neg (by decide), if_neg (by decide), if_neg (by decide), if_pos rfl]; exact decide_eq_decide.2 (by omega)), rfl⟩, ?_⟩
    have hS := ((hS.nilRo 2 (by omega)).nilRo 4 (by omega)).nilRo 1 (by omega)
    exact hS.ros (L := [roA 2 (.slice none 0 0) [], roA 4 (.slice none 0 0) [], roA 1 (.slice bA b.length bc) (u8s b)]) (by repeat (first | exact AllIn.nil | refine AllIn.cons (by repeat (first | with_reducible exact zS .. | exact zS .. | with_reducible apply zO)) ?_)) rfl
  have hbare : Msg.bare ⟨K, c, n, room, vec, turns, b⟩ = ⟨K, 0, 0, [], [], [], []⟩ := by unfold Msg.bare; simp only [if_neg k1, if_neg k2, if_neg k3, if_neg k4, if_neg k5, if_neg k6]
  simp only [BareP, hbare]
  refine WP.condF (congrArg (fun q => some (Value.bool q)) (beq_false_of_ne k1)) ?_
  repeat (first | refine RL.autoP T_ok rfl rfl ?_ | refine RL.loadM T_ok hS rfl rfl rfl (by with_reducible repeat (first | exact zS .. | apply zO)) (by rfl) (by rfl) ?_ | refine RL.lsM T_ok hS rfl rfl rfl (by with_reducible repeat (first | exact zS .. | apply zO)) (by rfl) (by rfl) (by rfl) ?_ | (refine RL.N1 ?_; (with_reducible repeat (first | refine QN.B1 ?_ | refine QN.N1 ?_))) | with_reducible refine WP.S1 ?_ | with_reducible refine WP.B1 ?_ | with_reducible refine WP.R1 ?_ | (refine WP.skip ?_; (with_reducible repeat (first | refine QN.B1 ?_ | refine QN.N1 ?_))) | refine WP.condT rfl ?_ | refine WP.condF rfl ?_)
  refine WP.condF (congrArg (fun q => some (Value.bool q)) (beq_false_of_ne k2)) ?_
  repeat (first | refine RL.autoP T_ok rfl rfl ?_ | refine RL.loadM T_ok hS rfl rfl rfl (by with_reducible repeat (first | exact zS .. | apply zO)) (by rfl) (by rfl) ?_ | refine RL.lsM T_ok hS rfl rfl rfl (by with_reducible repeat (first | exact zS .. | apply zO)) (by rfl) (by rfl) (by rfl) ?_ | (refine RL.N1 ?_; (with_reducible repeat (first | refine QN.B1 ?_ | refine QN.N1 ?_))) | with_reducible refine WP.S1 ?_ | with_reducible refine WP.B1 ?_ | with_reducible refine WP.R1 ?_ | (refine WP.skip ?_; (with_reducible repeat (first | refine QN.B1 ?_ | refine QN.N1 ?_))) | refine WP.condT rfl ?_ | refine WP.condF rfl ?_)
  refine WP.condF (congrArg (fun q => some (Value.bool q)) (beq_false_of_ne k3)) ?_
  repeat (first | refine RL.autoP T_ok rfl rfl ?_ | refine RL.loadM T_ok hS rfl rfl rfl (by with_reducible repeat (first | exact zS .. | apply zO)) (by rfl) (by rfl) ?_ | refine RL.lsM T_ok hS rfl rfl rfl (by with_reducible repeat (first | exact zS .. | apply zO)) (by rfl) (by rfl) (by rfl) ?_ | (refine RL.N1 ?_; (with_reducible repeat (first | refine QN.B1 ?_ | refine QN.N1 ?_))) | with_reducible refine WP.S1 ?_ | with_reducible refine WP.B1 ?_ | with_reducible refine WP.R1 ?_ | (refine WP.skip ?_; (with_reducible repeat (first | refine QN.B1 ?_ | refine QN.N1 ?_))) | refine WP.condT rfl ?_ | refine WP.condF rfl ?_)
  refine WP.condF (congrArg (fun q => some (Value.bool q)) (beq_false_of_ne k4)) ?_
  repeat (first | refine RL.autoP T_ok rfl rfl ?_ | refine RL.loadM T_ok hS rfl rfl rfl (by with_reducible repeat (first | exact zS .. | apply zO)) (by rfl) (by rfl) ?_ | refine RL.lsM T_ok hS rfl rfl rfl (by with_reducible repeat (first | exact zS .. | apply zO)) (by rfl) (by rfl) (by rfl) ?_ | (refine RL.N1 ?_; (with_reducible repeat (first | refine QN.B1 ?_ | refine QN.N1 ?_))) | with_reducible refine WP.S1 ?_ | with_reducible refine WP.B1 ?_ | with_reducible refine WP.R1 ?_ | (refine WP.skip ?_; (with_reducible repeat (first | refine QN.B1 ?_ | refine QN.N1 ?_))) | refine WP.condT rfl ?_ | refine WP.condF rfl ?_)
  refine WP.condF (congrArg (fun q => some (Value.bool q)) (beq_false_of_ne k6)) ?_
  repeat (first | refine RL.autoP T_ok rfl rfl ?_ | refine RL.loadM T_ok hS rfl rfl rfl (by with_reducible repeat (first | exact zS .. | apply zO)) (by rfl) (by rfl) ?_ | refine RL.lsM T_ok hS rfl rfl rfl (by with_reducible repeat (first | exact zS .. | apply zO)) (by rfl) (by rfl) (by rfl) ?_ | (refine RL.N1 ?_; (with_reducible repeat (first | refine QN.B1 ?_ | refine QN.N1 ?_))) | with_reducible refine WP.S1 ?_ | with_reducible refine WP.B1 ?_ | with_reducible refine WP.R1 ?_ | (refine WP.skip ?_; (with_reducible repeat (first | refine QN.B1 ?_ | refine QN.N1 ?_))) | refine WP.condT rfl ?_ | refine WP.condF rfl ?_)
  refine WP.condF (congrArg (fun q => some (Value.bool q)) (beq_false_of_ne k5)) ?_
  repeat (first | refine RL.autoP T_ok rfl rfl ?_ | refine RL.loadM T_ok hS rfl rfl rfl (by with_reducible repeat (first | exact zS .. | apply zO)) (by rfl) (by rfl) ?_ | refine RL.lsM T_ok hS rfl rfl rfl (by with_reducible repeat (first | exact zS .. | apply zO)) (by rfl) (by rfl) (by rfl) ?_ | (refine RL.N1 ?_; (with_reducible repeat (first | refine QN.B1 ?_ | refine QN.N1 ?_))) | with_reducible refine WP.S1 ?_ | with_reducible refine WP.B1 ?_ | with_reducible refine WP.R1 ?_ | (refine WP.skip ?_; (with_reducible repeat (first | refine QN.B1 ?_ | refine QN.N1 ?_))) | refine WP.condT rfl ?_ | refine WP.condF rfl ?_)
  repeat (first | refine RL.autoP T_ok rfl rfl ?_ | refine RL.loadM T_ok hS rfl rfl rfl (by with_reducible repeat (first | exact zS .. | apply zO)) (by rfl) (by rfl) ?_ | refine RL.lsM T_ok hS rfl rfl rfl (by with_reducible repeat (first | exact zS .. | apply zO)) (by rfl) (by rfl) (by rfl) ?_ | (refine RL.N1 ?_; (with_reducible repeat (first | refine QN.B1 ?_ | refine QN.N1 ?_))) | with_reducible refine WP.S1 ?_ | with_reducible refine WP.B1 ?_ | with_reducible refine WP.R1 ?_ | (refine WP.skip ?_; (with_reducible repeat (first | refine QN.B1 ?_ | refine QN.N1 ?_))) | refine WP.condT rfl ?_ | refine WP.condF rfl ?_)
  refine RL.ssM T_ok hS rfl rfl rfl rfl rfl (by rfl) (by rfl) (by with_reducible repeat (first | exact Rep.head | apply Rep.tail)) (by rfl) ?_; (try clear hS); intro m hS
  repeat (first | refine RL.autoP T_ok rfl rfl ?_ | refine RL.loadM T_ok hS rfl rfl rfl (by with_reducible repeat (first | exact zS .. | apply zO)) (by rfl) (by rfl) ?_ | refine RL.lsM T_ok hS rfl rfl rfl (by with_reducible repeat (first | exact zS .. | apply zO)) (by rfl) (by rfl) (by rfl) ?_ | (refine RL.N1 ?_; (with_reducible repeat (first | refine QN.B1 ?_ | refine QN.N1 ?_))) | with_reducible refine WP.S1 ?_ | with_reducible refine WP.B1 ?_ | with_reducible refine WP.R1 ?_ | (refine WP.skip ?_; (with_reducible repeat (first | refine QN.B1 ?_ | refine QN.N1 ?_))) | refine WP.condT rfl ?_ | refine WP.condF rfl ?_)
  refine WP.ret ?_; (with_reducible repeat (first | refine QN.tr ?_ | refine QN.br ?_))
  refine QN.retCT T_ok hS rfl rfl rfl rfl (by repeat (first | exact zS .. | with_reducible apply zO)) ⟨_, rfl, _, ⟨(.slice none 0 0), (.slice none 0 0), (.slice none 0 0), congrArg (fun q => Value.tuple #[_, .bool q]) (by show _ = Msg.right txt ⟨K, c, n, room, vec, turns, b⟩; unfold Msg.right; dsimp only; simp only [if_neg k1, if_neg k2, if_neg k3, if_neg k4, if_neg k5, if_neg k6]), rfl⟩, ?_⟩
  have hS := ((hS.nilRo 2 (by omega)).nilRo 4 (by omega)).nilRo 1 (by omega)
  exact hS.ros (L := [roA 2 (.slice none 0 0) [], roA 4 (.slice none 0 0) [], roA 1 (.slice none 0 0) []]) (by repeat (first | exact AllIn.nil | refine AllIn.cons (by repeat (first | with_reducible exact zS .. | exact zS .. | with_reducible apply zO)) ?_)) rfl
end Go.Proofs.YtmjpcaiehfimgaaDoor
end
