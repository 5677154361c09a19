/- Texts that belong together. -/
import Derived.Test.YtgpgladbdoimdaaGreatDoorMAncV9
import Derived.Laws.Runes
import Derived.Lib.RuneCount
section
namespace Go.Proofs.YtgpgladbdoimdaaGreatDoor
open Go.RowKit Go.Ev Go.Ids
theorem jC_one (x : Idn) : ∀ v ∈ iC x, v.oneCell' = true := by simp [iC, Value.oneCell']
theorem jsC_len : ∀ l : List Idn, (l.flatMap iC).length = l.length * 2
  | [] => rfl
  | x :: l => by simp [iC, jsC_len l]; omega
theorem jsC_get : ∀ (l : List Idn) (k : Nat) (h : k < l.length) (j : Nat), j < 2 → (l.flatMap iC)[k * 2 + j]? = (iC l[k])[j]?
  | x :: l, 0, _, j, hj => by
    rw [List.flatMap_cons, List.getElem?_append_left (by simp [iC]; omega)]
    simp
  | x :: l, k + 1, h, j, hj => by
    rw [List.flatMap_cons, List.getElem?_append_right (by simp [iC]; omega)]
    have : (k + 1) * 2 + j - (iC x).length = k * 2 + j := by simp [iC]; omega
    rw [this, jsC_get l k (by simpa using h) j hj]
    simp
def Js (m : World) (M : List Nat) (v : Value) (l : List Idn) : Prop := Sl m M 2 v (l.flatMap iC)
theorem Js.shape {m : World} {M : List Nat} {v : Value} {l : List Idn} (h : Js m M v l) : ∃ A c, v = .slice A l.length c ∧ l.length ≤ c ∧ c ≤ maxLen := Sl.shape h (jsC_len l) (by omega)
theorem Js.ext0 {m m' : World} {v : Value} {l : List Idn} (h : Js m [] v l) (hE : Ext m [] m') : Js m' [] v l := Sl.ext h hE (by simp) (by omega)
theorem Js.cell {m : World} {M : List Nat} {A : Option Addr} {n c : Nat} {l : List Idn} (h : Js m M (.slice A n c) l) (k : Nat) (hk : k < l.length) : ∃ ad, A = some ad ∧ ∀ j u, (iC l[k])[j]? = some u → m.cell? ((ad.add (k * 2)).add j) = some u := by
  obtain ⟨hl, _⟩ := Sl.len h
  rw [jsC_len] at hl
  obtain ⟨ad, rfl, _, hc⟩ := Sl.addr h (by omega)
  refine ⟨ad, rfl, fun j u hu => ?_⟩
  have hj : j < 2 := by have := (List.getElem?_eq_some_iff.1 hu).1; simpa [iC] using this
  rw [add_add]
  exact hc _ u (by rw [jsC_get l k hk j hj]; exact hu)
theorem jzero_one (k : Nat) : ∀ v ∈ (Builtin.zeroCells (#[.int .u64 0, .int .u64 0] : Array Value) k).toList, v.oneCell' = true := by
  intro v hv
  simp only [Builtin.zeroCells, Array.toList_map, List.mem_map] at hv
  obtain ⟨q, _, rfl⟩ := hv
  have h4 : q % (#[.int .u64 0, .int .u64 0] : Array Value).size < 2 := Nat.mod_lt _ (by simp)
  generalize q % (#[.int .u64 0, .int .u64 0] : Array Value).size = z at h4
  match z, h4 with
  | 0, _ => rfl
  | 1, _ => rfl
  | 2, _ => rfl
  | 3, _ => rfl
theorem jsC_take (l : List Idn) (k : Nat) : (l.flatMap iC).take (k * 2) = (l.take k).flatMap iC := by
  induction k generalizing l with
  | zero => simp
  | succ k ih =>
    cases l with
    | nil => simp
    | cons x l =>
      rw [List.flatMap_cons, List.take_succ_cons, List.flatMap_cons, ← ih l, Nat.succ_mul, Nat.add_comm]
      exact List.take_length_add_append (l₁ := iC x) (k * 2)
theorem jsC_drop (l : List Idn) (k : Nat) : (l.flatMap iC).drop (k * 2) = (l.drop k).flatMap iC := by
  induction k generalizing l with
  | zero => simp
  | succ k ih =>
    cases l with
    | nil => simp
    | cons x l =>
      rw [List.flatMap_cons, List.drop_succ_cons, ← ih l, Nat.succ_mul, Nat.add_comm, ← List.drop_drop]
      rfl
theorem jsC_put (l : List Idn) (k : Nat) (y : Idn) : (l.flatMap iC).take (k * 2) ++ iC y ++ (l.flatMap iC).drop (k * 2 + 2) = (l.take k ++ [y] ++ l.drop (k + 1)).flatMap iC := by
  rw [jsC_take, show k * 2 + 2 = (k + 1) * 2 by omega, jsC_drop]; simp
theorem indexJ_c (m : World) (v : Value) (l : List Idn) (h : Js m [] v l) (hl : l.length < 1000000000) (k : FuncId) (ca : List Value) (p : Idn → Bool) (hf : ∀ m1 x, Ext m [] m1 → FnR Tryz.prog k (iV x :: ca) m1 fun r m2 => r = .bool (p x) ∧ Ext m1 [] m2) :
    FnR Tryz.prog 197 [v, .func (.func k) #[] ca.toArray] m fun r m' => ((r = .int .i64 (-1) ∧ l.any p = false) ∨ ∃ i : Nat, r = .int .i64 i ∧ i < l.length ∧ (l.take i).any p = false ∧ ∃ h : i < l.length, p l[i] = true) ∧ Ext m [] m' := by
  obtain ⟨A, c, rfl, _, _⟩ := h.shape
  refine FnE.enter ⟨_, Tryz.func197, by kernel_rfl, by kernel_rfl⟩ Tryz.func197 rfl rfl ?_
  (with_reducible repeat (first | refine WP.S1 ?_ | refine WP.B1 ?_ | refine WP.R1 ?_))
  refine RL.A1 T_ok rfl ?_
  refine RL.N1 ?_; (with_reducible repeat (first | refine QN.B1 ?_ | refine QN.N1 ?_ | refine WP.S1 ?_ | refine WP.B1 ?_ | refine WP.R1 ?_))
  refine RL.A1 T_ok rfl ?_
  refine RL.N1 ?_; (with_reducible repeat (first | refine QN.B1 ?_ | refine QN.N1 ?_ | refine WP.S1 ?_ | refine WP.B1 ?_ | refine WP.R1 ?_))
  refine WP.loop (X := Nat) (fun i => [(0, .slice A l.length c), (1, .func (.func k) #[] ca.toArray), (7, .int .i64 l.length), (8, .int .i64 i)]) (fun i m' => i ≤ l.length ∧ (l.take i).any p = false ∧ Ext m [] m') (fun i => l.length - i) 0
    (Sub.C1 rfl (Sub.C1 rfl (Sub.C1 rfl (Sub.C1 rfl Sub.nil)))) ⟨by simp, by simp, Ext.refl _ _⟩ ?_
  rintro i m1 ⟨hi, ht, hE⟩
  (with_reducible repeat (first | refine WP.S1 ?_ | refine WP.B1 ?_ | refine WP.R1 ?_))
  refine RL.A1 T_ok rfl ?_
  refine RL.N1 ?_; (with_reducible repeat (first | refine QN.B1 ?_ | refine QN.N1 ?_ | refine WP.S1 ?_ | refine WP.B1 ?_ | refine WP.R1 ?_))
  refine WP.cond rfl (fun hc => ?_) (fun hc => ?_)
  · have hc : i < l.length := by have := of_decide_eq_true hc; omega
    obtain ⟨ad, rfl, hx⟩ := (h.ext0 hE).cell i hc
    refine WP.skip ?_; (with_reducible repeat (first | refine QN.B1 ?_ | refine QN.N1 ?_ | refine WP.S1 ?_ | refine WP.B1 ?_ | refine WP.R1 ?_))
    refine RL.A1 T_ok rfl ?_
    refine RL.N1 ?_; (with_reducible repeat (first | refine QN.B1 ?_ | refine QN.N1 ?_ | refine WP.S1 ?_ | refine WP.B1 ?_ | refine WP.R1 ?_))
    refine RL.A1 T_ok rfl ?_
    refine RL.indexAddr (k := i) T_ok rfl rfl rfl rfl rfl rfl rfl hc rfl ?_
    refine RL.loadAgg T_ok (iC l[i]) rfl rfl rfl hx rfl ?_
    refine RL.call (fi := []) (ca := ca) rfl rfl rfl rfl (hf m1 l[i] hE) ?_
    rintro _ m2 ⟨rfl, hE2⟩
    refine ⟨_, rfl, ?_⟩
    have hEm := hE.trans hE2 (by simp)
    refine RL.N1 ?_; (with_reducible repeat (first | refine QN.B1 ?_ | refine QN.N1 ?_ | refine WP.S1 ?_ | refine WP.B1 ?_ | refine WP.R1 ?_))
    refine WP.cond rfl (fun hp => ?_) (fun hp => ?_)
    · (with_reducible repeat (first | refine WP.S1 ?_ | refine WP.B1 ?_ | refine WP.R1 ?_))
      refine RL.A1 T_ok rfl ?_
      refine RL.N1 ?_; (with_reducible repeat (first | refine QN.B1 ?_ | refine QN.N1 ?_ | refine WP.S1 ?_ | refine WP.B1 ?_ | refine WP.R1 ?_))
      refine WP.ret ?_; (with_reducible repeat (first | refine QN.tr ?_ | refine QN.br ?_))
      exact QN.ret1 rfl rfl ⟨_, rfl, .inr ⟨i, rfl, hc, ht, hc, hp⟩, hEm⟩
    · refine WP.skip ?_; (with_reducible repeat (first | refine QN.B1 ?_ | refine QN.N1 ?_ | refine WP.S1 ?_ | refine WP.B1 ?_ | refine WP.R1 ?_))
      refine RL.A1 T_ok rfl ?_
      refine RL.N1 (QN.round (i + 1) (Sub.C1 rfl (Sub.C1 rfl (Sub.C1 rfl (Sub.C1 ?_ Sub.nil)))) ⟨by omega, ?_, hEm⟩ (by omega))
      · show some (Value.int .i64 (IntKind.i64.wrap ((i : Int) + 1))) = some (Value.int .i64 ((i + 1 : Nat) : Int))
        rw [wrap_i64_in _ (by omega) (by omega)]; rfl
      · rw [List.take_succ_eq_append_getElem hc, List.any_append, ht]
        simp [hp]
  · have hc : i = l.length := by have := of_decide_eq_false hc; omega
    subst hc
    rw [List.take_length] at ht
    refine WP.exit ?_; (with_reducible repeat (first | refine QN.tx ?_ | refine QN.bx ?_ | refine QN.block_far rfl ?_ | refine QN.B1 ?_ | refine QN.N1 ?_)); (with_reducible repeat (first | refine WP.S1 ?_ | refine WP.B1 ?_ | refine WP.R1 ?_))
    refine RL.A1 T_ok rfl ?_
    refine RL.N1 ?_; (with_reducible repeat (first | refine QN.B1 ?_ | refine QN.N1 ?_ | refine WP.S1 ?_ | refine WP.B1 ?_ | refine WP.R1 ?_))
    refine WP.ret ?_; (with_reducible repeat (first | refine QN.tr ?_ | refine QN.br ?_))
    exact QN.ret1 rfl rfl ⟨_, rfl, .inl ⟨rfl, ht⟩, hE⟩
theorem filter_noneJ {p : Idn → Bool} {l : List Idn} (h : l.any p = false) : l.filter (fun x => !p x) = l := by
  rw [List.filter_eq_self]
  intro x hx
  have := List.any_eq_false.1 h x hx
  simp [this]
theorem deleteJ_c (m : World) (S : List Nat) (v : Value) (l : List Idn) (h : Ev.Own m S 30 2 v l.length (l.flatMap iC)) (hl : l.length < 1000000000) (k : FuncId) (ca : List Value) (p : Idn → Bool) (K : World → Prop) (hK0 : K m) (hK : ∀ a b, K a → Ext a S b → K b)
    (hf : ∀ m1 x, K m1 → FnR Tryz.prog k (iV x :: ca) m1 fun r m2 => r = .bool (p x) ∧ Ext m1 [] m2) :
    FnR Tryz.prog 201 [v, .func (.func k) #[] ca.toArray] m fun r m' => Ev.Own m' S 30 2 r (l.filter fun x => !p x).length ((l.filter fun x => !p x).flatMap iC) ∧ Ext m S m' := by
  have hT : Js m [] v l := h.sl (by simp)
  refine FnE.enter ⟨_, Tryz.func201, by kernel_rfl, by kernel_rfl⟩ Tryz.func201 rfl rfl ?_
  (with_reducible repeat (first | refine WP.S1 ?_ | refine WP.B1 ?_ | refine WP.R1 ?_))
  refine RL.A1 T_ok rfl ?_
  refine RL.N1 ?_; (with_reducible repeat (first | refine QN.B1 ?_ | refine QN.N1 ?_ | refine WP.S1 ?_ | refine WP.B1 ?_ | refine WP.R1 ?_))
  refine RL.A1 T_ok rfl ?_
  refine RL.call (fi := []) (ca := []) rfl rfl rfl rfl (indexJ_c m v l hT hl k ca p (fun m1 x hE => hf m1 x (hK m m1 hK0 (hE.mono (by simp))))) ?_
  rintro _ m1 ⟨⟨rfl, hn⟩ | ⟨i0, rfl, hi0, hpre, hi1, hp0⟩, hE1⟩
  · refine ⟨_, rfl, ?_⟩
    refine RL.A1 T_ok rfl ?_
    refine RL.N1 ?_; (with_reducible repeat (first | refine QN.B1 ?_ | refine QN.N1 ?_ | refine WP.S1 ?_ | refine WP.B1 ?_ | refine WP.R1 ?_))
    refine RL.A1 T_ok rfl ?_
    refine RL.N1 ?_; (with_reducible repeat (first | refine QN.B1 ?_ | refine QN.N1 ?_ | refine WP.S1 ?_ | refine WP.B1 ?_ | refine WP.R1 ?_))
    refine WP.condT rfl ?_
    (with_reducible repeat (first | refine WP.S1 ?_ | refine WP.B1 ?_ | refine WP.R1 ?_))
    refine RL.A1 T_ok rfl ?_
    refine RL.N1 ?_; (with_reducible repeat (first | refine QN.B1 ?_ | refine QN.N1 ?_ | refine WP.S1 ?_ | refine WP.B1 ?_ | refine WP.R1 ?_))
    refine WP.ret ?_; (with_reducible repeat (first | refine QN.tr ?_ | refine QN.br ?_))
    refine QN.ret1 rfl rfl ⟨_, rfl, ?_, hE1.mono (by simp)⟩
    rw [filter_noneJ hn]
    exact h.ext hE1 (by simp)
  · refine ⟨_, rfl, ?_⟩
    have hO1 := h.ext hE1 (by simp)
    have hK1 := hK m m1 hK0 (hE1.mono (by simp))
    obtain ⟨g, cap, cur, rfl, _, _, _, _, _, rfl⟩ := h.at_ (by omega)
    refine RL.A1 T_ok rfl ?_
    refine RL.N1 ?_; (with_reducible repeat (first | refine QN.B1 ?_ | refine QN.N1 ?_ | refine WP.S1 ?_ | refine WP.B1 ?_ | refine WP.R1 ?_))
    refine RL.pure T_ok 2 rfl ?_
    refine RL.eqv (v' := .bool false) (congrArg _ (beq_eq_false_iff_ne.2 (by omega))) ?_
    refine RL.N1 ?_; (with_reducible repeat (first | refine QN.B1 ?_ | refine QN.N1 ?_ | refine WP.S1 ?_ | refine WP.B1 ?_ | refine WP.R1 ?_))
    refine WP.condF rfl ?_
    refine WP.skip ?_; (with_reducible repeat (first | refine QN.B1 ?_ | refine QN.N1 ?_ | refine WP.S1 ?_ | refine WP.B1 ?_ | refine WP.R1 ?_))
    refine RL.pure T_ok 2 rfl ?_
    refine RL.eqv (v' := .int .i64 ((i0 + 1 : Nat) : Int)) (congrArg _ (by rw [wrap_i64_in _ (by omega) (by omega)]; rfl)) ?_
    refine RL.A1 T_ok rfl ?_
    refine RL.N1 ?_; (with_reducible repeat (first | refine QN.B1 ?_ | refine QN.N1 ?_ | refine WP.S1 ?_ | refine WP.B1 ?_ | refine WP.R1 ?_))
    have hF0 : (l.take (i0 + 1)).filter (fun x => !p x) = l.take i0 := by
      rw [List.take_succ_eq_append_getElem hi0, List.filter_append, filter_noneJ hpre]
      simp [hp0]
    refine (WP.loop (X := Nat × List Idn) (fun q => [(0, .slice (some ⟨g, 0, none⟩) l.length cap), (1, .func (.func k) #[] ca.toArray), (5, .int .i64 ((l.take q.1).filter fun x => !p x).length), (6, .int .i64 q.1)])
      (fun q m' => q.1 ≤ l.length ∧ ((l.take q.1).filter fun x => !p x).length < q.1 ∧ q.2.length = l.length ∧ q.2.take ((l.take q.1).filter fun x => !p x).length = ((l.take q.1).filter fun x => !p x) ∧ q.2.drop q.1 = l.drop q.1 ∧
        Ev.Own m' [g] 30 2 (.slice (some ⟨g, 0, none⟩) l.length cap) l.length (q.2.flatMap iC) ∧ Ext m [g] m' ∧ K m') (fun q => l.length - q.1) (i0 + 1, l)
      (Sub.C1 rfl (Sub.C1 rfl (Sub.C1 ?_ (Sub.C1 rfl Sub.nil)))) ⟨hi0, by rw [hF0, List.length_take]; omega, rfl, by rw [hF0, List.length_take, Nat.min_eq_left (by omega)], rfl, hO1, hE1.mono (by simp), hK1⟩ ?_)
    · show some (Value.int .i64 (i0 : Int)) = some (Value.int .i64 ((((l.take (i0 + 1)).filter fun x => !p x).length : Nat) : Int))
      rw [hF0, List.length_take, Nat.min_eq_left (by omega)]
    rintro ⟨j, L⟩ m2 ⟨hj, hlt, hLl, hLt, hLd, hO2, hE2, hK2⟩
    simp only at hj hlt hLl hLt hLd hO2 hK2
    (with_reducible repeat (first | refine WP.S1 ?_ | refine WP.B1 ?_ | refine WP.R1 ?_))
    refine RL.A1 T_ok rfl ?_
    refine RL.N1 ?_; (with_reducible repeat (first | refine QN.B1 ?_ | refine QN.N1 ?_ | refine WP.S1 ?_ | refine WP.B1 ?_ | refine WP.R1 ?_))
    refine WP.cond rfl (fun hc => ?_) (fun hc => ?_)
    · replace hc : j < l.length := by have := of_decide_eq_true hc; simp only at this; omega
      have hR2 : Js m2 [] (.slice (some ⟨g, 0, none⟩) L.length cap) L := by rw [hLl]; exact hO2.sl (by simp)
      obtain ⟨ad, had, hx⟩ := hR2.cell j (by omega)
      injection had with had
      subst had
      have hLj : L[j]'(by omega) = l[j] := by
        have h1 : (L.drop j)[0]? = (l.drop j)[0]? := by rw [hLd]
        rw [List.getElem?_drop, List.getElem?_drop, Nat.add_zero, List.getElem?_eq_getElem (by omega), List.getElem?_eq_getElem hc] at h1
        exact Option.some.inj h1
      rw [hLj] at hx
      have hstep : (l.take (j + 1)).filter (fun x => !p x) = (l.take j).filter (fun x => !p x) ++ (if p l[j] then [] else [l[j]]) := by
        rw [List.take_succ_eq_append_getElem hc, List.filter_append]
        cases h : p l[j] <;> simp [h]
      have hLd' : L.drop (j + 1) = l.drop (j + 1) := by
        have h1 := congrArg (List.drop 1) hLd
        rwa [List.drop_drop, List.drop_drop] at h1
      generalize (l.take j).filter (fun x => !p x) = F at hlt hLt hstep
      obtain ⟨x, hxe⟩ : ∃ x, l[j] = x := ⟨_, rfl⟩
      rw [hxe] at hx hstep
      refine WP.skip ?_; (with_reducible repeat (first | refine QN.B1 ?_ | refine QN.N1 ?_ | refine WP.S1 ?_ | refine WP.B1 ?_ | refine WP.R1 ?_))
      refine RL.A1 T_ok rfl ?_
      refine RL.indexAddr (k := j) T_ok rfl rfl rfl rfl rfl rfl rfl hc rfl ?_
      refine RL.loadAgg T_ok (iC x) rfl rfl rfl hx rfl ?_
      refine RL.alloc T_ok rfl rfl (fun b7 m3 hb7 hC3 => ⟨_, rfl, ?_⟩)
      refine RL.storeAgg T_ok (b := b7) (i := 0) (vs := iC x) (cs := [.int .u64 0, .int .u64 0]) hC3.blk rfl rfl rfl rfl rfl (by simp) (by simp [iC, Value.oneCell']) rfl ?_
      intro m4 hC4
      have hE4 : Ext m2 [] m4 := (hC3.new (by omega)).trans hC4.ext (fun q hq => .inr (by have h9 : q = b7 := (by simpa using hq); omega))
      have hB4 : Blk m4 b7 30 (iC x) := hC4.blk
      have hO4 := hO2.ext hE4 (by simp)
      have hK4 := hK _ _ hK2 (hE4.mono (by simp))
      have l4 := hO2.lt g (by simp)
      refine RL.N1 ?_; (with_reducible repeat (first | refine QN.B1 ?_ | refine QN.N1 ?_ | refine WP.S1 ?_ | refine WP.B1 ?_ | refine WP.R1 ?_))
      refine RL.A1 T_ok rfl ?_
      refine RL.loadAgg T_ok (iC x) rfl rfl rfl (fun j u hu => by rw [add_block]; exact hB4.cell _ (by simpa using hu)) rfl ?_
      refine RL.call (fi := []) (ca := ca) rfl rfl rfl rfl (hf m4 x hK4) ?_
      rintro _ m5 ⟨rfl, hE5⟩
      refine ⟨_, rfl, ?_⟩
      have hB5 := hB4.ext hE5 (by simp)
      have hO5 := hO4.ext hE5 (by simp)
      have hK5 := hK _ _ hK4 (hE5.mono (by simp))
      have hE25 : Ext m2 [] m5 := hE4.trans hE5 (by simp)
      refine RL.A1 T_ok rfl ?_
      refine RL.N1 ?_; (with_reducible repeat (first | refine QN.B1 ?_ | refine QN.N1 ?_ | refine WP.S1 ?_ | refine WP.B1 ?_ | refine WP.R1 ?_))
      refine WP.cond rfl (fun hpx => ?_) (fun hpx => ?_)
      · have hpx : p x = false := by simpa using hpx
        rw [hpx, if_neg (by simp)] at hstep
        obtain ⟨g', cap', cur, hv5, hB5g, hgg, hj5, hset⟩ := hO5.putK (j := F.length * 2) (k := 2) (by omega) (by omega)
        injection hv5 with hv5 hv5'
        injection hv5 with hv5
        injection hv5 with hv5
        subst hv5
        (with_reducible repeat (first | refine WP.S1 ?_ | refine WP.B1 ?_ | refine WP.R1 ?_))
        refine RL.A1 T_ok rfl ?_
        refine RL.loadAgg T_ok (iC x) rfl rfl rfl (fun j u hu => by rw [add_block]; exact hB5.cell _ (by simpa using hu)) rfl ?_
        refine RL.indexAddr (k := F.length) T_ok rfl rfl rfl rfl rfl rfl rfl (by omega) rfl ?_
        refine RL.eqv (v' := .pointer (some ⟨g, F.length * 2, none⟩)) (congrArg (fun q => Value.pointer (some q)) (by rw [add_block]; show (⟨g, 0 + F.length * 2, none⟩ : Addr) = _; rw [Nat.zero_add])) ?_
        refine RL.storeAgg T_ok (b := g) (i := F.length * 2) (vs := iC x) hB5g rfl rfl rfl rfl rfl hj5 (jC_one _) rfl ?_
        intro m6 hC6
        have hO6 := hset m6 (iC x) rfl hC6
        rw [jsC_put] at hO6
        have hE6 : Ext m [g] m6 := (hE2.trans (hE25.mono (by simp)) (fun k hk => .inl hk)).trans hC6.ext (fun k hk => .inl hk)
        have hK6 := hK _ _ hK5 hC6.ext
        have hLL : (L.take F.length ++ [x] ++ L.drop (F.length + 1)).length = l.length := by simp; omega
        refine RL.N1 ?_; (with_reducible repeat (first | refine QN.B1 ?_ | refine QN.N1 ?_ | refine WP.S1 ?_ | refine WP.B1 ?_ | refine WP.R1 ?_))
        refine RL.pure T_ok 2 rfl ?_
        refine RL.eqv (v' := .int .i64 ((F.length + 1 : Nat) : Int)) (congrArg _ (by rw [wrap_i64_in _ (by omega) (by omega)]; rfl)) ?_
        refine RL.A1 T_ok rfl ?_
        refine RL.N1 ?_; (with_reducible repeat (first | refine QN.B1 ?_ | refine QN.N1 ?_ | refine WP.S1 ?_ | refine WP.B1 ?_ | refine WP.R1 ?_))
        refine RL.pure T_ok 2 rfl ?_
        refine RL.eqv (v' := .int .i64 ((j + 1 : Nat) : Int)) (congrArg _ (by rw [wrap_i64_in _ (by omega) (by omega)]; rfl)) ?_
        refine RL.A1 T_ok rfl ?_
        have hFl : ((l.take (j + 1)).filter fun x => !p x).length = F.length + 1 := by rw [hstep]; simp
        refine RL.N1 (QN.round (j + 1, L.take F.length ++ [x] ++ L.drop (F.length + 1)) (Sub.C1 rfl (Sub.C1 rfl (Sub.C1 ?_ (Sub.C1 rfl Sub.nil)))) ⟨by show j + 1 ≤ _; omega, ?_, hLL, ?_, ?_, hO6, hE6, hK6⟩ (by show _ - (j + 1) < _ - j; omega))
        · show some (Value.int .i64 ((F.length + 1 : Nat) : Int)) = some (Value.int .i64 ((((l.take (j + 1)).filter fun x => !p x).length : Nat) : Int))
          rw [hFl]
        · show ((l.take (j + 1)).filter fun x => !p x).length < j + 1
          rw [hFl]; omega
        · show (L.take F.length ++ [x] ++ L.drop (F.length + 1)).take ((l.take (j + 1)).filter fun x => !p x).length = (l.take (j + 1)).filter fun x => !p x
          rw [hFl, hstep, hLt]
          have e1 : (F ++ [x]).length = F.length + 1 := by simp
          rw [← e1, List.take_left]
        · show (L.take F.length ++ [x] ++ L.drop (F.length + 1)).drop (j + 1) = l.drop (j + 1)
          have e1 : (L.take F.length ++ [x]).length = F.length + 1 := by simp; omega
          rw [List.drop_append, e1, List.drop_eq_nil_of_le (by rw [e1]; omega), List.nil_append, List.drop_drop, ← hLd']
          congr 1; omega
      · have hpx : p x = true := by simpa using hpx
        rw [hpx, if_pos rfl, List.append_nil] at hstep
        refine WP.skip ?_; (with_reducible repeat (first | refine QN.B1 ?_ | refine QN.N1 ?_ | refine WP.S1 ?_ | refine WP.B1 ?_ | refine WP.R1 ?_))
        refine RL.pure T_ok 2 rfl ?_
        refine RL.eqv (v' := .int .i64 ((j + 1 : Nat) : Int)) (congrArg _ (by rw [wrap_i64_in _ (by omega) (by omega)]; rfl)) ?_
        refine RL.A1 T_ok rfl ?_
        refine RL.N1 (QN.round (j + 1, L) (Sub.C1 rfl (Sub.C1 rfl (Sub.C1 ?_ (Sub.C1 rfl Sub.nil)))) ⟨by show j + 1 ≤ _; omega, ?_, hLl, ?_, hLd', hO5, hE2.trans (hE25.mono (by simp)) (fun k hk => .inl hk), hK5⟩ (by show _ - (j + 1) < _ - j; omega))
        · show some (Value.int .i64 ((F.length : Nat) : Int)) = some (Value.int .i64 ((((l.take (j + 1)).filter fun x => !p x).length : Nat) : Int))
          rw [hstep]
        · show ((l.take (j + 1)).filter fun x => !p x).length < j + 1
          rw [hstep]; omega
        · show L.take ((l.take (j + 1)).filter fun x => !p x).length = (l.take (j + 1)).filter fun x => !p x
          rw [hstep]; exact hLt
    · replace hc : j = l.length := by have := of_decide_eq_false hc; simp only at this; omega
      subst hc
      rw [List.take_length] at hlt hLt
      have e0 : (l.take l.length).filter (fun x => !p x) = l.filter (fun x => !p x) := by rw [List.take_length]
      have elen : (((l.take l.length).filter fun x => !p x).length : Nat) = (l.filter fun x => !p x).length := by rw [e0]
      generalize l.filter (fun x => !p x) = F at hlt hLt e0 elen ⊢
      refine WP.exit ?_; (with_reducible repeat (first | refine QN.tx ?_ | refine QN.bx ?_ | refine QN.block_far rfl ?_ | refine QN.B1 ?_ | refine QN.N1 ?_)); (with_reducible repeat (first | refine WP.S1 ?_ | refine WP.B1 ?_ | refine WP.R1 ?_))
      refine RL.sub (e' := [(0, .slice (some ⟨g, 0, none⟩) l.length cap), (5, .int .i64 (F.length : Nat))]) (Sub.C1 rfl (Sub.C1 ?_ Sub.nil)) ?_
      · show some (Value.int .i64 ((((l.take l.length).filter fun x => !p x).length : Nat) : Int)) = _
        rw [elen]
      have hcapl : l.length ≤ cap := by
        obtain ⟨g', cap', cur, hv, _, h9, _⟩ := hO2.at_ (by omega)
        injection hv with _ _ hv
      obtain ⟨g', cap', cur, hv5, hB5g, hgg, hj5, hset⟩ := hO2.putK (j := F.length * 2) (k := (l.length - F.length) * 2) (by omega) (by omega)
      injection hv5 with hv5 hv5'
      injection hv5 with hv5
      injection hv5 with hv5
      subst hv5
      refine RL.A1 T_ok rfl ?_
      refine RL.sliceFrom T_ok (l := F.length) rfl rfl rfl rfl rfl (by omega) rfl ?_
      refine RL.eqv (v' := .slice (some ⟨g, F.length * 2, none⟩) (l.length - F.length) (cap - F.length)) (by
        rw [if_neg (by omega)]
        show Value.slice (some ((⟨g, 0, none⟩ : Addr).add (F.length * 2))) _ _ = _
        rw [add_block, Nat.zero_add]) ?_
      refine RL.clear T_ok (b := g) (off := F.length * 2) (k := l.length - F.length) (cs := cur) rfl hB5g rfl rfl (by omega) hj5 (jzero_one _) rfl ?_
      intro m6 hC6
      have hO6 := hset m6 _ (by rw [size_zero]; rfl) hC6
      have hO7 := hO6.cutTo (i := F.length) (by omega) (by omega)
      have hE6 : Ext m [g] m6 := hE2.trans hC6.ext (fun k hk => .inl hk)
      rw [List.append_assoc, List.take_append_of_le_length (by rw [List.length_take, jsC_len, hLl]; omega), List.take_take, Nat.min_self, jsC_take, hLt] at hO7
      refine RL.N1 ?_; (with_reducible repeat (first | refine QN.B1 ?_ | refine QN.N1 ?_ | refine WP.S1 ?_ | refine WP.B1 ?_ | refine WP.R1 ?_))
      refine RL.A1 T_ok rfl ?_
      refine RL.sliceTo (l := F.length) T_ok rfl rfl rfl rfl rfl (by omega) rfl ?_
      refine RL.A1 T_ok rfl ?_
      refine RL.N1 ?_; (with_reducible repeat (first | refine QN.B1 ?_ | refine QN.N1 ?_ | refine WP.S1 ?_ | refine WP.B1 ?_ | refine WP.R1 ?_))
      refine WP.ret ?_; (with_reducible repeat (first | refine QN.tr ?_ | refine QN.br ?_))
      exact QN.ret1 rfl rfl ⟨_, rfl, hO7, hE6⟩
end Go.Proofs.YtgpgladbdoimdaaGreatDoor
end
section
namespace Go.Proofs.YtgpgladbdoimdaaGreatDoor
open Go.RowKit Go.Ev Go.Ids
set_option maxRecDepth 20000
set_option maxHeartbeats 1000000
theorem needs1_c (m : World) (b : Nat) (o : Opr) (i : Idn) (hB : Blk m b 55 (oC o)) : FnR Tryz.prog 202 [iV i, pA b] m fun r m' => r = .bool (decide (i = O0) || decide (i.c = o.id.c)) ∧ Ext m [] m' := by
  have hS : Tr m [] [] m [] := Tr.start (H := []) ⟨fun A h => (by cases h), List.nodup_nil, fun k h => (by cases h)⟩ (fun k h => (by cases h))
  refine FnR.mono (post := fun v m' => v = .bool (decide (i = O0) || decide (i.c = o.id.c)) ∧ Tr m [] [] m' []) ?_ fun _ _ h => ⟨h.1, h.2.ext⟩
  refine FnE.enter ⟨_, Tryz.func202, by kernel_rfl, by kernel_rfl⟩ Tryz.func202 rfl rfl ?_
  refine go ?_
  refine RL.boxS hS rfl rfl rfl ?_; (try clear hS); intro b2 m hS; refine ⟨_, rfl, ?_⟩
  refine go ?_
  refine RL.binOp (eqI_eql i ⟨0, 0⟩) (eqI_guard _ _ _ _ _) rfl rfl rfl rfl ?_
  by_cases h0 : i = O0
  · rw [decide_eq_true (show i = ⟨0, 0⟩ from h0), decide_eq_true h0]
    refine go ?_
    exact QN.ret1 rfl rfl ⟨_, rfl, rfl, hS.tail⟩
  · rw [decide_eq_false (show ¬ i = ⟨0, 0⟩ from h0), decide_eq_false h0]
    refine go ?_
    refine RL.load T_ok rfl rfl rfl ((hB.ext hS.ext (by simp)).cell 0 rfl) rfl ?_
    refine go ?_
    have e : ((i.c : Int) == (o.id.c : Int)) = decide (i.c = o.id.c) := by rw [Bool.eq_iff_iff]; simp; omega
    rw [e]
    exact QN.ret1 rfl rfl ⟨_, rfl, by simp, hS.tail⟩
def Opr.needs (o : Opr) : List Idn := o.names.filter fun i => !(decide (i = O0) || decide (i.c = o.id.c))
theorem needs_s (o : Opr) : DoS Tryz.prog 163 [oV o] [] (fun r H => ∃ S, H = [idsA S r o.needs]) := by
  intro m0 X hS
  refine FnE.enter ⟨_, Tryz.func163, by kernel_rfl, by kernel_rfl⟩ Tryz.func163 rfl rfl ?_
  refine go ?_
  refine RL.boxS hS rfl rfl rfl ?_; (try clear hS); intro b1 m hS; refine ⟨_, rfl, ?_⟩
  refine go ?_
  refine RL.callM (fi := []) (ca := []) hS (names_s o) rfl rfl rfl rfl .nil ?_
  clear hS
  rintro v m _ ⟨S, rfl⟩ hS
  simp only [zC, zN] at hS
  refine ⟨_, rfl, ?_⟩
  refine go ?_
  have hO : Ev.Own m S 30 2 v o.names.length (o.names.flatMap iC) := hS.head
  have hB : Blk m b1 55 (oC o) := hS.mem (A := blkA b1 55 (oC o)) (by simp)
  have hnb : b1 ∉ S := fun hh => by
    have := hS.hold.nd
    rw [ofps_cons, ofps_cons] at this
    exact (List.nodup_append.1 this).2.2 b1 hh b1 (by simp [blkA]) rfl
  refine RL.call (fi := []) (ca := []) rfl rfl rfl rfl (deleteJ_c m S v o.names hO (by simp [Opr.names]) 202 [pA b1] (fun i => decide (i = O0) || decide (i.c = o.id.c)) (fun m1 => Blk m1 b1 55 (oC o)) hB (fun a b h hE => h.ext hE hnb) (fun m1 i h => needs1_c m1 b1 o i h)) ?_
  rintro r m' ⟨hO', hE⟩
  have hS := hS.grow hO' hE (FpNew.refl _ _)
  refine ⟨_, rfl, ?_⟩
  refine go ?_
  exact QN.ret1 rfl rfl ⟨_, rfl, _, ⟨S, rfl⟩, (hS.perm (.swap ..)).tail⟩
end Go.Proofs.YtgpgladbdoimdaaGreatDoor
end
section
namespace Go.Proofs.YtgpgladbdoimdaaGreatDoor
open Go.ChangeShapes Go.WideShapes Go.ChangeAt Go.RowKit Go.Ev Go.Ids Go.SeqP
set_option maxRecDepth 20000
set_option maxHeartbeats 1000000
def oR (o : Opr) : Rng := ⟨o.id.c, o.id.k, o.id.k + o.n⟩
theorem Good.rng {o : Opr} (g : Good o) : Canon [oR o] := by
  have h1 := g.id
  have h2 := g.top
  have h3 := g.n_pos
  simp only [Idn.right, num, Bool.and_eq_true, decide_eq_true_eq] at h1
  refine ⟨fun x hx => ?_, List.pairwise_singleton ..⟩
  rw [List.mem_singleton] at hx
  subst hx
  rw [right_iff]
  simp only [oR]
  omega
theorem minus_nil {a : List Rng} (h : Canon a) : minus a [] = a := canon_unique (minus_canon _ _) h fun c k => by rw [minus_mem]; exact ⟨fun h => h.1, fun h => ⟨h, mem_nil⟩⟩
theorem minus_self (a : List Rng) : minus a a = [] := canon_unique (minus_canon _ _) Canon.nil fun c k => by rw [minus_mem]; exact ⟨fun h => absurd h.1 h.2, fun h => absurd h mem_nil⟩
theorem nil_join {a : List Rng} (h : Canon a) : join [] a = a := canon_unique (join_canon _ _) h fun c k => by rw [join_mem]; exact ⟨fun h => h.elim (fun h => absurd h mem_nil) id, .inr⟩
abbrev hdH (d : Nat) (x : Dx) (b3 : Nat) (o : Opr) (S8 : List Nat) (v8 : Value) (W : List (Idn × Value)) : List Asn := rngA S8 v8 [oR o] :: blkA b3 55 (oC o) :: tabA :: dcH d { x with W := W, h := [] } []
theorem hold_s (d : Nat) (x : Dx) (o : Opr) (g : Good o) (hk : kget x.es o.id.c = nU (o.id.k - 1)) (hW : x.W = []) (hh : x.h = []) :
    DoS Tryz.prog 66 [pA d, oV o] (tabA :: dcH d x []) (fun r H => r = .bool true ∧ ∃ S4 vh, H = dcH d { x with W := [(o.id, oV o.clean)], S4 := S4, vh := vh, h := [oR o] } []) := by
  intro m0 X hS
  have hid := g.id
  simp only [Idn.right, num, Bool.and_eq_true, decide_eq_true_eq] at hid
  have htop := g.top
  have hn := g.n_pos
  obtain ⟨M0, hM0⟩ : ∃ M0, M0 = ofps (tabA :: dcH d x []) := ⟨_, rfl⟩
  rw [← hM0] at hS ⊢
  simp only [dcH, hW, hh] at hS
  refine FnE.enter ⟨_, Tryz.func66, by kernel_rfl, by kernel_rfl⟩ Tryz.func66 rfl rfl ?_
  refine go ?_
  refine RL.boxS hS rfl rfl rfl ?_; (try clear hS); intro b3 m hS; refine ⟨_, rfl, ?_⟩
  refine go ?_
  refine RL.callU (fi := []) (ca := []) hS (orange_p o g) rfl rfl rfl rfl (by repeat (first | with_reducible exact Sels.nil | apply Sels.ro (by with_reducible repeat (first | exact zS .. | apply zO)) (by rfl) | apply Sels.own (by with_reducible repeat (first | exact Sel.head | apply Sel.tail)))) rfl (fun m hS => ?_)
  refine go ?_
  refine RL.allocS T_ok rfl hS rfl rfl ?_; (try clear hS); intro b5 m hS; refine ⟨_, rfl, ?_⟩
  refine go ?_
  refine RL.ssM T_ok hS rfl rfl rfl rfl rfl (by rfl) (by rfl) (by with_reducible repeat (first | exact Rep.head | apply Rep.tail)) (by rfl) ?_; (try clear hS); intro m hS
  refine go ?_
  refine RH.lookup (v := nU (o.id.k - 1)) (k := o.id.c) (es := x.es) T_ok PanicOk.calm u64K rfl (by kernel_rfl) rfl rfl rfl rfl rfl rfl rfl (by with_reducible repeat (first | exact zS .. | apply zO)) hk rfl ?_
  refine go ?_
  have hd : decide (((o.id.k - 1 : Nat) : Int) ≥ (o.id.k : Int)) = false := decide_eq_false (by omega)
  rw [hd]
  refine go ?_
  refine RH.one rfl (by kernel_rfl) rfl ?_
  refine RL.buildSliceM T_ok hS [.tmp 31] (us := [.agg (oRng o).toArray]) (oRng o) rfl rfl rfl rfl rfl rfl (by intro u hu; simp only [List.mem_singleton] at hu; subst hu; rfl) rfl rfl rfl ?_
  clear hS
  intro b7 m hS
  refine ⟨_, rfl, ?_⟩
  refine RL.N1 (RH.contM hS (by repeat (first | exact AllIn.nil | refine AllIn.cons (by repeat (first | with_reducible exact zS .. | exact zS .. | with_reducible apply zO)) ?_)) ?_)
  refine go ?_
  refine RH.callS (fi := []) (ca := []) hS (minus_s [b7] x.S4 _ x.vh [oR o] [] (by simp) (by simp) (by simp)) rfl (by kernel_rfl) rfl rfl rfl rfl rfl (by repeat (first | with_reducible exact Sels.nil | apply Sels.ro (by repeat (first | exact zS .. | with_reducible apply zO)) (by rfl) | apply Sels.own (by repeat (first | exact Sel.head | with_reducible apply Sel.tail)))) ?_
  clear hS
  rintro v8 m _ ⟨S8, rfl⟩ hS
  simp only [zC, zN, minus_nil g.rng] at hS
  obtain ⟨g8, c8, rfl, _, _, _⟩ := hS.ownAt (show ownA S8 167 3 v8 [oR o].length ([oR o].flatMap rC) ∈ _ from zS ..) (by simp)
  simp only [List.length_singleton] at hS
  refine ⟨by simp only [zC, zN]; exact (by repeat (first | exact AllIn.nil | refine AllIn.cons (by repeat (first | with_reducible exact zS .. | exact zS .. | with_reducible apply zO)) ?_)), _, rfl, ?_⟩
  refine go ?_
  have hS := (hS.sels (Pre := hdH d x b3 o S8 (.slice (some ⟨g8, 0, none⟩) 1 c8) []) (by repeat (first | with_reducible exact Sels.nil | apply Sels.ro (by repeat (first | exact zS .. | with_reducible apply zO)) (by rfl) | apply Sels.own (by repeat (first | exact Sel.head | with_reducible apply Sel.tail))))).drop
  refine (WP.loop (X := Bool) (fun b => [(0, pA d), (3, pA b3), (7, .slice (some ⟨g8, 0, none⟩) 1 c8), (38, .slice (some ⟨g8, 0, none⟩) 1 c8), (39, .int .i64 1), (40, .int .i64 (if b then 1 else 0))])
    (fun b m' => Tr m0 M0 X m' (hdH d x b3 o S8 (.slice (some ⟨g8, 0, none⟩) 1 c8) (if b then [(o.id, oV o.clean)] else []))) (fun b => if b then 0 else 1) false
    (Sub.C1 rfl (Sub.C1 rfl (Sub.C1 rfl (Sub.C1 rfl (Sub.C1 rfl (Sub.C1 rfl Sub.nil)))))) hS ?_)
  clear hS
  rintro b m hS
  cases b with
  | true =>
    simp only [if_true] at hS ⊢
    dsimp only [hdH, dcH] at hS
    refine go ?_
    refine WP.exit ?_
    (with_reducible repeat (first | refine QN.tx ?_ | refine QN.bx ?_ | refine QN.B1 ?_ | refine QN.N1 ?_))
    refine go ?_
    refine RL.callM (fi := []) (ca := []) hS (join_s x.S4 S8 x.vh _ [] [oR o] (by simp)) rfl rfl rfl rfl (by repeat (first | with_reducible exact Sels.nil | apply Sels.ro (by repeat (first | exact zS .. | with_reducible apply zO)) (by rfl) | apply Sels.own (by repeat (first | exact Sel.head | with_reducible apply Sel.tail)))) ?_
    clear hS
    rintro v10 m _ ⟨S10, rfl⟩ hS
    simp only [zC, zN, nil_join g.rng] at hS
    obtain ⟨A10, c10, rfl, _⟩ := Ev.Own.shape (show Ev.Own m S10 167 3 v10 [oR o].length ([oR o].flatMap rC) from hS.head)
    refine ⟨_, rfl, ?_⟩
    refine go ?_
    refine RL.storeM T_ok hS rfl rfl rfl rfl (by rfl) (by rfl) (by with_reducible repeat (first | exact Rep.head | apply Rep.tail)) (by rfl) ?_; (try clear hS); intro m hS
    refine go ?_
    refine QN.ret1 rfl rfl ⟨_, rfl, _, ⟨rfl, S10, .slice A10 1 c10, rfl⟩, ?_⟩
    exact (hS.sels (by repeat (first | with_reducible exact Sels.nil | apply Sels.ro (by repeat (first | exact zS .. | with_reducible apply zO)) (by rfl) | apply Sels.own (by repeat (first | exact Sel.head | with_reducible apply Sel.tail))))).drop
  | false =>
    simp only [if_false, Bool.false_eq_true] at hS ⊢
    dsimp only [hdH, dcH] at hS
    have hsl : Sl m [] 3 (.slice (some ⟨g8, 0, none⟩) 1 c8) ([oR o].flatMap rC) := Ev.Own.sl (show Ev.Own m S8 167 3 (.slice (some ⟨g8, 0, none⟩) 1 c8) 1 _ from hS.mem (A := rngA S8 (.slice (some ⟨g8, 0, none⟩) 1 c8) [oR o]) (zS ..)) (by simp)
    refine go ?_
    refine RL.indexAddr (k := 0) T_ok rfl rfl rfl rfl rfl rfl rfl (by omega) rfl ?_
    refine RL.ldEA T_ok rC (fun _ => rfl) hsl (show [oR o][0]? = some (oR o) from rfl) rfl rfl rfl rfl rfl ?_
    refine go ?_
    refine RL.allocS T_ok rfl hS rfl rfl ?_; (try clear hS); intro b9 m hS; refine ⟨_, rfl, ?_⟩
    refine go ?_
    refine RL.ssM T_ok hS rfl rfl rfl rfl rfl (by rfl) (by rfl) (by with_reducible repeat (first | exact Rep.head | apply Rep.tail)) (by rfl) ?_; (try clear hS); intro m hS
    refine go ?_
    have e1 : IntKind.i64.wrap (IntKind.u64.wrap (((oR o).f : Int) - (o.id.k : Int))) = 0 := by
      simp only [oR]; rw [wrap_u64_in _ (by omega) (by omega), wrap_i64_in _ (by omega) (by omega)]; omega
    have e2 : IntKind.i64.wrap (IntKind.u64.wrap (((oR o).t : Int) - (o.id.k : Int))) = (o.n : Int) := by
      simp only [oR]; rw [wrap_u64_in _ (by omega) (by omega), wrap_i64_in _ (by omega) (by omega)]; omega
    rw [e1, e2]
    refine RL.callU (fi := []) (ca := []) hS (ocut_p o g) rfl rfl rfl rfl (by repeat (first | with_reducible exact Sels.nil | apply Sels.ro (by with_reducible repeat (first | exact zS .. | apply zO)) (by rfl) | apply Sels.own (by with_reducible repeat (first | exact Sel.head | apply Sel.tail)))) rfl (fun m hS => ?_)
    refine go ?_
    refine RL.allocS T_ok rfl hS rfl rfl ?_; (try clear hS); intro b10 m hS; refine ⟨_, rfl, ?_⟩
    refine go ?_
    refine RL.ssM T_ok hS rfl rfl rfl rfl rfl (by rfl) (by rfl) (by with_reducible repeat (first | exact Rep.head | apply Rep.tail)) (by rfl) ?_; (try clear hS); intro m hS
    refine go ?_
    refine RH.mapUpdateF (k := o.clean.id) (v := oV o.clean) T_ok hS idK rfl (by kernel_rfl) rfl rfl rfl rfl rfl rfl rfl (by with_reducible repeat (first | exact zS .. | apply zO)) (by with_reducible repeat (first | exact Rep.head | apply Rep.tail)) rfl (by kernel_rfl) ?_
    clear hS
    intro m hS
    refine QN.calm ?_
    refine go ?_
    refine QN.round true (Sub.C1 rfl (Sub.C1 rfl (Sub.C1 rfl (Sub.C1 rfl (Sub.C1 rfl (Sub.C1 rfl Sub.nil)))))) ?_ (by decide)
    exact (hS.sels (by repeat (first | with_reducible exact Sels.nil | apply Sels.ro (by repeat (first | exact zS .. | with_reducible apply zO)) (by rfl) | apply Sels.own (by repeat (first | exact Sel.head | with_reducible apply Sel.tail))))).drop
end Go.Proofs.YtgpgladbdoimdaaGreatDoor
end
section
namespace Go.Ev
open Go.RowKit
end Go.Ev
namespace Go.Proofs.YtgpgladbdoimdaaGreatDoor
open Go.RowKit Go.Ev Go.Ids
theorem clone_range (m : World) (v : Value) (l : List Rng) (h : Rs m [] v l) (hl : l.length < 1000000000) : FnR Tryz.prog 89 [v] m fun r m' => (∀ M, (∀ k ∈ M, k < m.heap.size) → Rs m' M r l) ∧ Ext m [] m' ∧ r.oneCell' = true := by
  obtain ⟨A, c, rfl, _, _⟩ := h.shape
  refine FnE.enter ⟨_, Tryz.func89, by kernel_rfl, by kernel_rfl⟩ Tryz.func89 rfl rfl ?_
  (with_reducible repeat (first | refine WP.S1 ?_ | refine WP.B1 ?_ | refine WP.R1 ?_))
  refine RL.A1 T_ok rfl ?_
  refine RL.N1 ?_; (with_reducible repeat (first | refine QN.B1 ?_ | refine QN.N1 ?_ | refine WP.S1 ?_ | refine WP.B1 ?_ | refine WP.R1 ?_))
  refine RL.A1 T_ok rfl ?_
  refine RL.N1 ?_; (with_reducible repeat (first | refine QN.B1 ?_ | refine QN.N1 ?_ | refine WP.S1 ?_ | refine WP.B1 ?_ | refine WP.R1 ?_))
  refine WP.cond rfl (fun hc => ?_) (fun hc => ?_)
  · have hA : A = none := by simpa using hc
    subst hA
    have hl0 : l = [] := by
      rcases l with _ | ⟨x, l⟩
      · rfl
      · obtain ⟨ad, hh, _⟩ := h.cell 0 (by simp)
        cases hh
    subst hl0
    (with_reducible repeat (first | refine WP.S1 ?_ | refine WP.B1 ?_ | refine WP.R1 ?_))
    refine RL.A1 T_ok rfl ?_
    refine RL.N1 ?_; (with_reducible repeat (first | refine QN.B1 ?_ | refine QN.N1 ?_ | refine WP.S1 ?_ | refine WP.B1 ?_ | refine WP.R1 ?_))
    refine WP.ret ?_; (with_reducible repeat (first | refine QN.tr ?_ | refine QN.br ?_))
    exact QN.ret1 rfl rfl ⟨_, rfl, (fun M _ => Sl.nil _ _ _), Ext.refl _ _, rfl⟩
  · refine WP.skip ?_; (with_reducible repeat (first | refine QN.B1 ?_ | refine QN.N1 ?_ | refine WP.S1 ?_ | refine WP.B1 ?_ | refine WP.R1 ?_))
    refine RL.buildSlice0 T_ok rfl rfl (fun b1 m1 hb1 hC1 => ⟨_, rfl, ?_⟩)
    have hE1 : Ext m [] m1 := hC1
    have hSl : Sl m1 [] 3 (.slice A l.length c) (l.flatMap rC) := h.ext0 hE1
    refine RL.A1 T_ok rfl ?_
    refine RL.append T_ok (Own.empty _ _ _ _) (l.flatMap rC) (Src.of_sl hSl) rfl rfl rfl rfl rfl (rsC_len l) (rsC_one l) (by unfold maxLen; omega) (by show (0 + _) * 24 ≤ _; omega) ?_
    intro v2 m2 S2 hO2 hE2 hF2
    refine ⟨_, rfl, ?_⟩
    rw [Nat.zero_add, List.nil_append] at hO2
    refine RL.A1 T_ok rfl ?_
    refine RL.N1 ?_; (with_reducible repeat (first | refine QN.B1 ?_ | refine QN.N1 ?_ | refine WP.S1 ?_ | refine WP.B1 ?_ | refine WP.R1 ?_))
    refine WP.ret ?_; (with_reducible repeat (first | refine QN.tr ?_ | refine QN.br ?_))
    exact QN.ret1 rfl rfl ⟨_, rfl, (fun M hM => hO2.sl (fun k hk hkM => by
      have h8 := hM k hkM
      have h9 := hE1.size
      rcases hF2 k hk with h7 | h7
      · cases h7
      · omega)), hE1.trans hE2 (by simp), hO2.one⟩
end Go.Proofs.YtgpgladbdoimdaaGreatDoor
end
section
namespace Go.Proofs.YtgpgladbdoimdaaGreatDoor
open Go.ChangeShapes Go.WideShapes Go.ChangeAt Go.RowKit Go.Ev Go.Ids Go.SeqP
set_option maxRecDepth 20000
set_option maxHeartbeats 1000000
theorem cloned_tr {m0 m m' : World} {M0 X : List Nat} {H : List Asn} {r : Value} {l : List Rng} (hS : Tr m0 M0 X m H) (h : ∀ M, (∀ k ∈ M, k < m.heap.size) → Rs m' M r l) (hE : Ext m [] m') : Tr m0 M0 X m' (roA 3 r (l.flatMap rC) :: H) :=
  hS.new (B := roA 3 r (l.flatMap rC)) hE (fun k hk => by cases hk) (by simp [roA]) ⟨h _ fun k hk => by
    rw [ofps_cons] at hk
    rcases List.mem_append.1 hk with hk | hk
    · rcases List.mem_append.1 hk with hk | hk
      · cases hk
      · exact hS.hold.lt k hk
    · exact Nat.lt_of_lt_of_le (hS.xlt k hk) hS.ext.size, by omega⟩
structure RdV (d bx : Nat) (es : List (Nat × Value)) (W : List (Idn × Value)) (h : List Rng) (H : List Asn) (c0 : Value) (rk : Nat) (c2 c3 : Value) (rw : Nat) (vh c6 c7 c8 c9 c10 c11 : Value) (S4 : List Nat) : Prop where
  bx : blkA bx 24 [pA d] ∈ H
  d : blkA d 147 [c0, .map (some rk), c2, c3, .map (some rw), vh, c6, c7, c8, c9, c10, c11] ∈ H
  k : mapA rk nU es ∈ H
  w : mapA rw iV W ∈ H
  h : rngA S4 vh h ∈ H
  t : tabA ∈ H
  n : ∀ c, ∃ n, kget es c = nU n
theorem knows_s (d : Nat) (es : List (Nat × Value)) (L : List Asn) (c0 : Value) (rk : Nat) (cs : List Value) (hd : blkA d 147 (c0 :: .map (some rk) :: cs) ∈ L) (hm : mapA rk nU es ∈ L) (i : Idn) (n : Nat) (hn : kget es i.c = nU n) :
    DoS Tryz.prog 165 [pA d, iV i] L (fun r H => r = .bool (decide (i.k ≤ n)) ∧ H = L) := by
  intro m0 X hS
  have hN := hd
  obtain ⟨M0, hM0⟩ : ∃ M0, M0 = ofps L := ⟨_, rfl⟩
  rw [← hM0] at hS ⊢
  refine FnE.enter ⟨_, Tryz.func165, by kernel_rfl, by kernel_rfl⟩ Tryz.func165 rfl rfl ?_
  refine go ?_
  refine RL.boxS hS rfl rfl rfl ?_; (try clear hS); intro b3 m hS; refine ⟨_, rfl, ?_⟩
  refine go ?_
  refine RH.lookup (v := nU n) (k := i.c) (es := es) T_ok PanicOk.calm u64K rfl (by kernel_rfl) rfl rfl rfl rfl rfl rfl rfl (zO _ hm) hn rfl ?_
  refine go ?_
  have e : decide ((i.k : Int) ≤ (n : Int)) = decide (i.k ≤ n) := by rw [Bool.eq_iff_iff]; simp
  rw [e]
  exact QN.ret1 rfl rfl ⟨_, rfl, _, ⟨rfl, rfl⟩, hS.tail⟩
theorem ready2_s (d bx : Nat) (es : List (Nat × Value)) (L : List Asn) (c0 : Value) (rk : Nat) (cs : List Value) (hb : blkA bx 24 [pA d] ∈ L) (hd : blkA d 147 (c0 :: .map (some rk) :: cs) ∈ L) (hm : mapA rk nU es ∈ L) (i : Idn) (hn : ∃ n, kget es i.c = nU n ∧ i.k ≤ n) :
    DoS Tryz.prog 164 [iV i, pA bx] (tabA :: L) (fun r H => r = .bool false ∧ H = L) := by
  intro m0 X hS
  have hS := hS.perm (List.perm_append_comm (l₁ := [tabA]) (l₂ := L))
  have hN := hb
  obtain ⟨n, h1, h2⟩ := hn
  obtain ⟨M0, hM0⟩ : ∃ M0, M0 = ofps (tabA :: L) := ⟨_, rfl⟩
  rw [← hM0] at hS ⊢
  have hS := hS.drop
  refine FnE.enter ⟨_, Tryz.func164, by kernel_rfl, by kernel_rfl⟩ Tryz.func164 rfl rfl ?_
  refine go ?_
  refine RL.boxS hS rfl rfl rfl ?_; (try clear hS); intro b2 m hS; refine ⟨_, rfl, ?_⟩
  refine go ?_
  refine RL.callM (fi := []) (ca := []) hS (knows_s d es (blkA b2 30 (iC i) :: L) c0 rk cs (zO _ hd) (zO _ hm) i n h1) rfl rfl rfl rfl (Sels.self _) ?_
  clear hS
  rintro _ m _ ⟨rfl, rfl⟩ hS
  simp only [List.append_nil, decide_eq_true h2] at hS ⊢
  refine ⟨_, rfl, ?_⟩
  refine go ?_
  exact QN.ret1 rfl rfl ⟨_, rfl, _, ⟨rfl, rfl⟩, hS.tail⟩
theorem ready_s (d : Nat) : DoS Tryz.prog 126 [pA d] [] (fun v H => ∃ bx, v = .func (.func 162) #[] #[pA bx] ∧ H = [blkA bx 24 [pA d]]) := by
  intro m0 X hS
  refine FnE.enter ⟨_, Tryz.func126, by kernel_rfl, by kernel_rfl⟩ Tryz.func126 rfl rfl ?_
  refine go ?_
  refine RL.boxS hS rfl rfl rfl ?_; (try clear hS); intro b1 m hS; refine ⟨_, rfl, ?_⟩
  refine go ?_
  exact QN.ret1 rfl rfl ⟨_, rfl, _, ⟨b1, rfl, rfl⟩, hS⟩
def RdN (d bx : Nat) (L pre : List Opr) (H : List Asn) : Prop := ∃ es W h c0 rk c2 c3 rw vh c6 c7 c8 c9 c10 c11 S4, RdV d bx es W h H c0 rk c2 c3 rw vh c6 c7 c8 c9 c10 c11 S4 ∧ (pre = [] → h = L.map oR) ∧
  (∀ o, L[pre.length]? = some o → W = [(o.id, oV o)] ∧ kget es o.id.c = nU (o.id.k - 1) ∧ ∀ i ∈ o.needs, ∃ n, kget es i.c = nU n ∧ i.k ≤ n) ∧ (L.length ≤ pre.length → W = [])
theorem ready1_nil (d bx : Nat) : ItT Tryz.prog 162 [pA bx] (fun o : Opr => [oV o]) (fun _ _ => False) (fun xs => xs = []) (RdN d bx []) := by
  intro l I Ix m0 m M0 X H h0 hS hneed hy
  obtain ⟨es, W, h, c0, rk, c2, c3, rw, vh, c6, c7, c8, c9, c10, c11, S4, hV, h1, _, _⟩ := hneed [] H h0
  have hh := h1 rfl
  subst hh
  refine FnE.enter ⟨_, Tryz.func162, by kernel_rfl, by kernel_rfl⟩ Tryz.func162 rfl rfl ?_
  have hN := hV.bx
  have hN' := hV.d
  refine go ?_
  refine RL.call (fi := []) (ca := []) rfl rfl rfl rfl (clone_range m vh [] (hS.ownSl hV.h) (by simp)) ?_
  rintro r m' ⟨hr, hE, h1r⟩
  have hS := cloned_tr hS hr hE
  obtain ⟨A, c, rfl, _⟩ := Rs.shape (hr [] (fun _ h => by cases h))
  refine ⟨_, rfl, ?_⟩
  refine go ?_
  refine (WP.loop (X := Unit) (fun _ => [(12, .int .i64 0), (13, .int .i64 0)]) (fun _ m' => Tr m0 M0 X m' H) (fun _ => 0) () (Sub.C1 rfl (Sub.C1 rfl Sub.nil)) hS.tail ?_)
  clear hS hr hE
  rintro _ m hS
  refine go ?_
  refine WP.exit ?_
  (with_reducible repeat (first | refine QN.tx ?_ | refine QN.bx ?_ | refine QN.B1 ?_))
  exact QN.end0 rfl ⟨_, rfl, .inl ⟨[], H, rfl, h0, hS⟩⟩
theorem ready1_one (d bx : Nat) (o : Opr) (g : Good o) : ItT Tryz.prog 162 [pA bx] (fun o : Opr => [oV o]) (fun pre x => pre = [] ∧ x = o) (fun xs => xs = [o]) (RdN d bx [o]) := by
  intro l I Ix m0 m M0 X H h0 hS hneed hy
  obtain ⟨es, W, h, c0, rk, c2, c3, rw, vh, c6, c7, c8, c9, c10, c11, S4, hV, h1, h2, _⟩ := hneed [] H h0
  have hh := h1 rfl
  subst hh
  have hid := g.id
  simp only [Idn.right, num, Bool.and_eq_true, decide_eq_true_eq] at hid
  refine FnE.enter ⟨_, Tryz.func162, by kernel_rfl, by kernel_rfl⟩ Tryz.func162 rfl rfl ?_
  have hN := hV.bx
  have hN' := hV.d
  refine go ?_
  refine RL.call (fi := []) (ca := []) rfl rfl rfl rfl (clone_range m vh [oR o] (hS.ownSl hV.h) (by simp)) ?_
  rintro r m' ⟨hr, hE, h1r⟩
  have hS := cloned_tr hS hr hE
  obtain ⟨A, c, rfl, _⟩ := Rs.shape (hr [] (fun _ h => by cases h))
  obtain ⟨ad, rfl, _⟩ := Rs.cell (hr [] (fun _ h => by cases h)) 0 (by simp)
  refine ⟨_, rfl, ?_⟩
  refine go ?_
  refine (WP.loop (X := Bool × List Asn) (fun z => [(0, .func (.yield l) #[] #[]), (1, pA bx), (11, .slice (some ad) 1 c), (12, .int .i64 1), (13, .int .i64 (if z.1 then 1 else 0))])
    (fun z m' => I (if z.1 then [o] else []) z.2 ∧ Tr m0 M0 X m' (roA 3 (.slice (some ad) 1 c) ([oR o].flatMap rC) :: z.2)) (fun z => if z.1 then 0 else 1) (false, H)
    (Sub.C1 rfl (Sub.C1 rfl (Sub.C1 rfl (Sub.C1 rfl (Sub.C1 rfl Sub.nil))))) ⟨h0, hS⟩ ?_)
  clear hS hr hE h0 hN hN' h2 hV h1
  rintro ⟨b, H1⟩ m1 ⟨hI, hS⟩
  cases b with
  | true =>
    dsimp only [if_true] at hI hS ⊢
    refine go ?_
    refine WP.exit ?_
    (with_reducible repeat (first | refine QN.tx ?_ | refine QN.bx ?_ | refine QN.B1 ?_))
    exact QN.end0 rfl ⟨_, rfl, .inl ⟨[o], H1, rfl, hI, hS.tail⟩⟩
  | false =>
    simp only [if_false, Bool.false_eq_true] at hI hS ⊢
    have hsl : Sl m1 [] 3 (.slice (some ad) 1 c) ([oR o].flatMap rC) := Sl.less hS.head.1 (fun k hk => by cases hk) (by omega)
    refine go ?_
    refine RL.indexAddr (k := 0) T_ok rfl rfl rfl rfl rfl rfl rfl (by omega) rfl ?_
    refine RL.ldEA T_ok rC (fun _ => rfl) hsl (show [oR o][0]? = some (oR o) from rfl) rfl rfl rfl rfl rfl ?_
    refine go ?_
    refine RL.allocS T_ok rfl hS rfl rfl ?_; (try clear hS); intro b4 m hS; refine ⟨_, rfl, ?_⟩
    refine go ?_
    refine RL.ssM T_ok hS rfl rfl rfl rfl rfl (by rfl) (by rfl) (by with_reducible repeat (first | exact Rep.head | apply Rep.tail)) (by rfl) ?_; (try clear hS); intro m hS
    refine go ?_
    have hS : Tr m0 M0 X _ (blkA b4 167 (rC (oR o)) :: roA 3 (.slice (some ad) 1 c) ([oR o].flatMap rC) :: H1) := hS
    refine (WP.loop (X := Bool × List Asn) (fun z => [(0, .func (.yield l) #[] #[]), (1, pA bx), (4, pA b4), (11, .slice (some ad) 1 c), (12, .int .i64 1), (13, .int .i64 0)])
      (fun z m' => I (if z.1 then [o] else []) z.2 ∧ Tr m0 M0 X m' (blkA b4 167 (rC (oR o)) :: roA 3 (.slice (some ad) 1 c) ([oR o].flatMap rC) :: z.2)) (fun z => if z.1 then 0 else 1) (false, H1)
      (Sub.C1 rfl (Sub.C1 rfl (Sub.C1 rfl (Sub.C1 rfl (Sub.C1 rfl (Sub.C1 rfl Sub.nil)))))) ⟨hI, hS⟩ ?_)
    clear hS hsl hI
    rintro ⟨b, H2⟩ m2 ⟨hI, hS⟩
    cases b with
    | true =>
      dsimp only [if_true] at hI hS ⊢
      obtain ⟨es, W, h, c0, rk, c2, c3, rw, vh, c6, c7, c8, c9, c10, c11, S4, hV, _, _, h3⟩ := hneed [o] H2 hI
      have hW := h3 (Nat.le_refl _)
      subst hW
      obtain ⟨n, hn⟩ := hV.n o.id.c
      have hN := hV.bx
      have hN' := hV.d
      refine goS ?_
      refine WP.drawJ (blkA b4 167 (rC (oR o)) :: roA 3 (.slice (some ad) 1 c) ([oR o].flatMap rC) :: H2) hS (AllIn.self _) (by kernel_rfl) ?_
      refine goS ?_
      refine RH.lookup (v := nU n) (k := o.id.c) (es := es) T_ok PanicOk.calm u64K rfl (by kernel_rfl) rfl rfl rfl rfl rfl rfl rfl (zO _ (zO _ hV.k)) hn rfl ?_
      refine goS ?_
      obtain ⟨z, hz⟩ : ∃ z : Nat, IntKind.u64.wrap ((n : Int) + 1) = (z : Int) := ⟨(IntKind.u64.wrap ((n : Int) + 1)).toNat, by rw [wrap_u64]; omega⟩
      rw [hz]
      refine RH.lookup (k := (⟨o.id.c, z⟩ : Idn)) (es := ([] : List (Idn × Value))) T_ok PanicOk.calm idK rfl (by kernel_rfl) rfl rfl rfl rfl rfl rfl rfl (zO _ (zO _ hV.w)) rfl rfl ?_
      refine goS ?_
      refine RH.one rfl (by kernel_rfl) rfl ?_
      refine RL.allocS T_ok rfl hS rfl rfl ?_; (try clear hS); intro b5 m hS; refine ⟨_, rfl, ?_⟩
      refine RL.N1 (RH.contM hS (AllIn.of_sub (fun a ha => zO _ ha)) ?_)
      refine goS ?_
      refine RH.one rfl (by kernel_rfl) rfl ?_
      refine RL.ssM T_ok hS rfl rfl rfl rfl rfl (by rfl) (by rfl) (by with_reducible repeat (first | exact Rep.head | apply Rep.tail)) (by rfl) ?_; (try clear hS); intro m hS
      refine RL.N1 (RH.contM hS (AllIn.of_sub (fun a ha => zO _ ha)) ?_)
      refine goS ?_
      refine WP.exit ?_
      (with_reducible repeat (first | refine QN.tx ?_ | refine QN.bx ?_ | refine QN.block_far rfl ?_ | refine QN.B1 ?_ | refine QN.N1 ?_))
      refine go ?_
      refine QN.round (true, H2) (Sub.C1 rfl (Sub.C1 rfl (Sub.C1 rfl (Sub.C1 rfl (Sub.C1 rfl Sub.nil))))) ⟨hI, hS.tail.tail⟩ Nat.zero_lt_one
    | false =>
      simp only [if_false, Bool.false_eq_true] at hI hS ⊢
      obtain ⟨es, W, h, c0, rk, c2, c3, rw, vh, c6, c7, c8, c9, c10, c11, S4, hV, _, h2, _⟩ := hneed [] H2 hI
      obtain ⟨hW, hk, hnd⟩ := h2 o rfl
      subst hW
      have hN := hV.bx
      have hN' := hV.d
      refine goS ?_
      refine WP.drawJ (blkA b4 167 (rC (oR o)) :: roA 3 (.slice (some ad) 1 c) ([oR o].flatMap rC) :: H2) hS (AllIn.self _) (by kernel_rfl) ?_
      refine goS ?_
      refine RH.lookup (v := nU (o.id.k - 1)) (k := o.id.c) (es := es) T_ok PanicOk.calm u64K rfl (by kernel_rfl) rfl rfl rfl rfl rfl rfl rfl (zO _ (zO _ hV.k)) hk rfl ?_
      refine goS ?_
      have hw : IntKind.u64.wrap (((o.id.k - 1 : Nat) : Int) + 1) = (o.id.k : Int) := by rw [wrap_u64_in _ (by omega) (by omega)]; omega
      rw [hw]
      refine RH.lookup (k := o.id) (es := [(o.id, oV o)]) (v := .tuple #[oV o, .bool true]) T_ok PanicOk.calm idK rfl (by kernel_rfl) rfl rfl rfl rfl rfl rfl rfl (zO _ (zO _ hV.w)) (by simp [mget]) rfl ?_
      refine goS ?_
      refine RH.one rfl (by kernel_rfl) rfl ?_
      refine RL.allocS T_ok rfl hS rfl rfl ?_; (try clear hS); intro b5 m hS; refine ⟨_, rfl, ?_⟩
      refine RL.N1 (RH.contM hS (AllIn.of_sub (fun a ha => zO _ ha)) ?_)
      refine goS ?_
      refine RH.one rfl (by kernel_rfl) rfl ?_
      refine RL.ssM T_ok hS rfl rfl rfl rfl rfl (by rfl) (by rfl) (by with_reducible repeat (first | exact Rep.head | apply Rep.tail)) (by rfl) ?_; (try clear hS); intro m hS
      have hS : Tr m0 M0 X _ (blkA b5 55 (oC o) :: blkA b4 167 (rC (oR o)) :: roA 3 (.slice (some ad) 1 c) ([oR o].flatMap rC) :: H2) := hS
      refine RL.N1 (RH.contM hS (AllIn.of_sub (fun a ha => zO _ ha)) ?_)
      refine goS ?_
      refine RL.callM (fi := []) (ca := []) hS (needs_s o) rfl rfl rfl rfl .nil ?_
      clear hS
      rintro v m _ ⟨S, rfl⟩ hS
      refine ⟨_, rfl, ?_⟩
      refine goS ?_
      have hS := hS.perm (List.perm_append_comm (l₁ := [_]) (l₂ := blkA b5 55 (oC o) :: blkA b4 167 (rC (oR o)) :: roA 3 (.slice (some ad) 1 c) ([oR o].flatMap rC) :: H2))
      have up : ∀ {A : Asn}, A ∈ H2 → A ∈ blkA b5 55 (oC o) :: blkA b4 167 (rC (oR o)) :: roA 3 (.slice (some ad) 1 c) ([oR o].flatMap rC) :: H2 := fun h => zO _ (zO _ (zO _ h))
      refine RL.callM (fi := []) (ca := []) hS (containsI_s S v o.needs _ 164 [pA bx] (fun _ => false) (Nat.le_trans (List.length_filter_le _ _) (by simp [Opr.names])) (fun i hi => ready2_s d bx es _ c0 rk _ (up hV.bx) (up hV.d) (up hV.k) i (hnd i hi))) rfl rfl rfl rfl (.ro (List.mem_append_left _ (up hV.t)) rfl (Sels.self _)) ?_
      clear hS
      rintro _ m _ ⟨rfl, rfl⟩ hS
      have hS := (Tr.drop hS).drop
      have ha : (o.needs.any fun _ => false) = false := by simp
      rw [ha]
      refine ⟨_, rfl, ?_⟩
      refine goS ?_
      refine RL.yield rfl rfl rfl (hy [] o [blkA b5 55 (oC o), blkA b4 167 (rC (oR o)), roA 3 (.slice (some ad) 1 c) ([oR o].flatMap rC)] m H2 hI ⟨rfl, rfl⟩ hS) ?_ ?_ ?_
      · rintro v m2 ⟨H3, hS2, hr⟩
        clear hS
        have hS2 : Tr m0 M0 X m2 (blkA b5 55 (oC o) :: blkA b4 167 (rC (oR o)) :: roA 3 (.slice (some ad) 1 c) ([oR o].flatMap rC) :: H3) := hS2
        rcases hr with ⟨he, hI2⟩ | ⟨he, hI2⟩ <;> cases he
        · refine ⟨_, rfl, ?_⟩
          have hS := hS2
          refine go ?_
          exact QN.round (true, H3) (Sub.C1 rfl (Sub.C1 rfl (Sub.C1 rfl (Sub.C1 rfl (Sub.C1 rfl (Sub.C1 rfl Sub.nil)))))) ⟨hI2, hS.tail⟩ Nat.zero_lt_one
        · refine ⟨_, rfl, ?_⟩
          have hS := hS2
          refine go ?_
          exact QN.ret0 rfl ⟨_, rfl, .inr ⟨_, H3, hI2, hS2.tail.tail.tail⟩⟩
      · rintro ch m2 ⟨H2, _, ⟨he, _⟩ | ⟨he, _⟩⟩ <;> cases he
      · rintro m2 ⟨H2, _, ⟨he, _⟩ | ⟨he, _⟩⟩ <;> cases he
end Go.Proofs.YtgpgladbdoimdaaGreatDoor
end
section
namespace Go.Proofs.YtgpgladbdoimdaaGreatDoor
open Go.ChangeShapes Go.WideShapes Go.ChangeAt Go.RowKit Go.Ev Go.Ids Go.SeqP
set_option maxRecDepth 20000
set_option maxHeartbeats 1000000
theorem tr_fix {m0 m : World} {M0 X : List Nat} {A T B C : List Asn} (h : Tr m0 M0 X m (A ++ (T ++ (B ++ C)))) : Tr m0 M0 X m (C ++ (A ++ B)) := by
  refine Tr.drop (F := T) (h.perm ?_)
  refine ((List.perm_append_comm (l₁ := T) (l₂ := B ++ C)).append_left A).trans ?_
  rw [← List.append_assoc, ← List.append_assoc]
  exact (List.perm_append_comm).append_right T
theorem tr_fix0 {m0 m : World} {M0 X : List Nat} {A T B : List Asn} (h : Tr m0 M0 X m (A ++ (T ++ B))) : Tr m0 M0 X m (A ++ B) := by
  refine Tr.drop (F := T) (h.perm ?_)
  rw [List.append_assoc]
  exact (List.perm_append_comm).append_left A
end Go.Proofs.YtgpgladbdoimdaaGreatDoor
end
