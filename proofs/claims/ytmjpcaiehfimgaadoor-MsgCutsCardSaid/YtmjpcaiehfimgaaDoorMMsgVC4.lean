/- Texts that belong together. -/
import Derived.Test.YtmjpcaiehfimgaaDoorMMsgVC3
import Derived.Shelf.SlGeneric
import Derived.Shelf.SlLaysF0
import Derived.Ground.SlsfProg
import Derived.Ground.NamesProg
import Derived.Shelf.Lays
import Derived.Test.YtmjpcaiehfimgaaDoorProg
import Derived.Shelf.Unicode.ValidAny
import Derived.Shelf.SlSortCmp.WholeK
import Derived.Shelf.SlSortCmp.NoneTotal
section
namespace Go.Proofs
open Go.Shelf
def Tryd.sortT_ren : Go.Shelf.Ren := ⟨fun | 6 => 31 | 15 => 53 | 14 => 52 | 28 => 76 | 29 => 77 | 20 => 68 | 21 => 69 | 22 => 70 | 23 => 71 | 24 => 72 | 25 => 73 | 26 => 74 | 27 => 75 | 46 => 81 | 47 => 82 | 48 => 83 | 49 => 84 | 50 => 85 | 57 => 89 | n => n, fun | 22 => 24 | 24 => 53 | 25 => 74 | 3 => 3 | 39 => 66 | 0 => 0 | 53 => 109 | 55 => 22 | 4 => 4 | 46 => 102 | 45 => 101 | 50 => 106 | 5 => 5 | 9 => 9 | 66 => 120 | 70 => 124 | 76 => 128 | 77 => 129 | n => n, fun | n => n⟩
theorem Tryd.sortT : Go.Proofs.SlLaysF0.n6 Tryd.prog Tryd.sortT_ren := {
  mixed := by kernel_rfl
  f6 := ⟨Tryd.f31.name, by decide, Tryd.func31.trans (congrArg some (by kernel_rfl))⟩
  f14 := ⟨Tryd.f52.name, by decide, Tryd.func52.trans (congrArg some (by kernel_rfl))⟩
  f15 := Tryd.func53.trans (congrArg some (by kernel_rfl))
  f20 := ⟨Tryd.f68.name, by decide, Tryd.func68.trans (congrArg some (by kernel_rfl))⟩
  f21 := ⟨Tryd.f69.name, by decide, Tryd.func69.trans (congrArg some (by kernel_rfl))⟩
  f22 := ⟨Tryd.f70.name, by decide, Tryd.func70.trans (congrArg some (by kernel_rfl))⟩
  f23 := ⟨Tryd.f71.name, by decide, Tryd.func71.trans (congrArg some (by kernel_rfl))⟩
  f24 := ⟨Tryd.f72.name, by decide, Tryd.func72.trans (congrArg some (by kernel_rfl))⟩
  f25 := ⟨Tryd.f73.name, by decide, Tryd.func73.trans (congrArg some (by kernel_rfl))⟩
  f26 := ⟨Tryd.f74.name, by decide, Tryd.func74.trans (congrArg some (by kernel_rfl))⟩
  f27 := ⟨Tryd.f75.name, by decide, Tryd.func75.trans (congrArg some (by kernel_rfl))⟩
  f28 := Tryd.func76.trans (congrArg some (by kernel_rfl))
  f29 := Tryd.func77.trans (congrArg some (by kernel_rfl))
  f46 := ⟨Tryd.f81.name, by decide, Tryd.func81.trans (congrArg some (by kernel_rfl))⟩
  f47 := Tryd.func82.trans (congrArg some (by kernel_rfl))
  f48 := Tryd.func83.trans (congrArg some (by kernel_rfl))
  f49 := ⟨Tryd.f84.name, by decide, Tryd.func84.trans (congrArg some (by kernel_rfl))⟩
  f50 := ⟨Tryd.f85.name, by decide, Tryd.func85.trans (congrArg some (by kernel_rfl))⟩
  f57 := ⟨Tryd.f89.name, by decide, Tryd.func89.trans (congrArg some (by kernel_rfl))⟩
  t0 := Tryd.underlying0
  a0 := Tryd.isAgg0
  z0 := Tryd.sizeOf0
  v0 := Tryd.zeroValue0
  t3 := Tryd.underlying3
  a3 := Tryd.isAgg3
  z3 := Tryd.sizeOf3
  v3 := Tryd.zeroValue3
  t4 := Tryd.underlying4
  a4 := Tryd.isAgg4
  z4 := Tryd.sizeOf4
  v4 := Tryd.zeroValue4
  t5 := Tryd.underlying5
  a5 := Tryd.isAgg5
  z5 := Tryd.sizeOf5
  v5 := Tryd.zeroValue5
  t9 := Tryd.underlying9
  a9 := Tryd.isAgg9
  z9 := Tryd.sizeOf9
  v9 := Tryd.zeroValue9
  t22 := Tryd.underlying24
  a22 := Tryd.isAgg24
  z22 := Tryd.sizeOf24
  v22 := Tryd.zeroValue24
  t25 := Tryd.underlying74
  a25 := Tryd.isAgg74
  z25 := Tryd.sizeOf74
  v25 := Tryd.zeroValue74
  t39 := Tryd.underlying66
  a39 := Tryd.isAgg66
  z39 := Tryd.sizeOf66
  v39 := Tryd.zeroValue66
  t45 := Tryd.underlying101
  a45 := Tryd.isAgg101
  z45 := Tryd.sizeOf101
  v45 := Tryd.zeroValue101
  t46 := Tryd.underlying102
  a46 := Tryd.isAgg102
  z46 := Tryd.sizeOf102
  v46 := Tryd.zeroValue102
  t50 := Tryd.underlying106
  a50 := Tryd.isAgg106
  z50 := Tryd.sizeOf106
  v50 := Tryd.zeroValue106
  t53 := Tryd.underlying109
  a53 := Tryd.isAgg109
  z53 := Tryd.sizeOf109
  v53 := Tryd.zeroValue109
  t55 := Tryd.underlying22
  a55 := Tryd.isAgg22
  z55 := Tryd.sizeOf22
  v55 := Tryd.zeroValue22
  t66 := Tryd.underlying120
  a66 := Tryd.isAgg120
  z66 := Tryd.sizeOf120
  v66 := Tryd.zeroValue120
  t70 := Tryd.underlying124
  a70 := Tryd.isAgg124
  z70 := Tryd.sizeOf124
  v70 := Tryd.zeroValue124
  t76 := Tryd.underlying128
  a76 := Tryd.isAgg128
  z76 := Tryd.sizeOf128
  v76 := Tryd.zeroValue128
  t77 := Tryd.underlying129
  a77 := Tryd.isAgg129
  z77 := Tryd.sizeOf129
  v77 := Tryd.zeroValue129 }
def Tryd.valid_ren : Go.Shelf.Ren := ⟨fun | 196 => 67 | 259 => 80 | n => n, fun | 9 => 9 | 4 => 4 | 3 => 3 | 5 => 5 | 12 => 12 | 119 => 116 | 0 => 0 | 46 => 66 | 139 => 119 | 138 => 118 | 53 => 22 | n => n, fun | 3 => 0 | 4 => 1 | n => n⟩
theorem Tryd.valid : Go.Proofs.Lays.n196 Tryd.prog Tryd.valid_ren := {
  mixed := by kernel_rfl
  f196 := Tryd.func67.trans (congrArg some (by kernel_rfl))
  f259 := Tryd.func80.trans (congrArg some (by kernel_rfl))
  t0 := Tryd.underlying0
  a0 := Tryd.isAgg0
  z0 := Tryd.sizeOf0
  v0 := Tryd.zeroValue0
  t3 := Tryd.underlying3
  a3 := Tryd.isAgg3
  z3 := Tryd.sizeOf3
  v3 := Tryd.zeroValue3
  t4 := Tryd.underlying4
  a4 := Tryd.isAgg4
  z4 := Tryd.sizeOf4
  v4 := Tryd.zeroValue4
  t5 := Tryd.underlying5
  a5 := Tryd.isAgg5
  z5 := Tryd.sizeOf5
  v5 := Tryd.zeroValue5
  t9 := Tryd.underlying9
  a9 := Tryd.isAgg9
  z9 := Tryd.sizeOf9
  v9 := Tryd.zeroValue9
  t12 := Tryd.underlying12
  a12 := Tryd.isAgg12
  z12 := Tryd.sizeOf12
  v12 := Tryd.zeroValue12
  t46 := Tryd.underlying66
  a46 := Tryd.isAgg66
  z46 := Tryd.sizeOf66
  v46 := Tryd.zeroValue66
  t53 := Tryd.underlying22
  a53 := Tryd.isAgg22
  z53 := Tryd.sizeOf22
  v53 := Tryd.zeroValue22
  t119 := Tryd.underlying116
  a119 := Tryd.isAgg116
  z119 := Tryd.sizeOf116
  t138 := Tryd.underlying118
  a138 := Tryd.isAgg118
  z138 := Tryd.sizeOf118
  v138 := Tryd.zeroValue118
  t139 := Tryd.underlying119
  a139 := Tryd.isAgg119
  z139 := Tryd.sizeOf119
  v139 := Tryd.zeroValue119
  g3 := by kernel_rfl
  g4 := by kernel_rfl }
end Go.Proofs
end
section
namespace Go.Proofs.YtmjpcaiehfimgaaDoor
open Go.RowKit Go.Ev
def Tabs (m : World) (M : List Nat) : Prop := Lib.Utf8Tabs (Tryd.valid_ren.g 3) (Tryd.valid_ren.g 4) m ∧ Tryd.valid_ren.g 3 ∉ M ∧ Tryd.valid_ren.g 4 ∉ M ∧ m.drawn = 0
theorem Tabs.keep {m m' : World} {M M' N : List Nat} (h : Tabs m M) (hE : Ext m N m') (hN : ∀ k ∈ N, k < m.heap.size → k ∈ M) (hM : ∀ k ∈ M', k ∈ M ∨ m.heap.size ≤ k) : Tabs m' M' := by
  obtain ⟨⟨h1, h2⟩, h3, h4, h5⟩ := h
  have l3 : Tryd.valid_ren.g 3 < m.heap.size := World.block_lt_of_cell? m _ (h1 0 (by omega))
  have l4 : Tryd.valid_ren.g 4 < m.heap.size := World.block_lt_of_cell? m _ (h2 0 (by omega)).1
  have n3 : Tryd.valid_ren.g 3 ∉ N := fun hh => h3 (hN _ hh l3)
  have n4 : Tryd.valid_ren.g 4 ∉ N := fun hh => h4 (hN _ hh l4)
  refine ⟨⟨fun c hc => hE.cell n3 (h1 c hc), fun i hi => ⟨hE.cell n4 (h2 i hi).1, hE.cell n4 (h2 i hi).2⟩⟩, fun hh => ?_, fun hh => ?_, hE.drawn.2 h5⟩
  · rcases hM _ hh with g | g
    · exact h3 g
    · omega
  · rcases hM _ hh with g | g
    · exact h4 g
    · omega
def tabA : Asn where
  own := []
  P := Tabs
  lt := fun _ k hk => by cases hk
  keep := fun h hE _ hN hM => h.keep hE hN hM
theorem tabs_sim {m w : World} {M : List Nat} (h : Tabs m M) (hs : Sim m w) : Lib.Utf8Tabs (Tryd.valid_ren.g 3) (Tryd.valid_ren.g 4) w :=
  ⟨fun c hc => (hs.cell _).trans (h.1.1 c hc), fun i hi => ⟨(hs.cell _).trans (h.1.2 i hi).1, (hs.cell _).trans (h.1.2 i hi).2⟩⟩
theorem valid_s (l : List UInt8) (hl : l.length ≤ 9223372036854775807) : DoS Tryd.prog 67 [.string (str l)] [tabA] (fun r H => r = .bool (runesL l).isSome ∧ H = []) := by
  intro m X hS
  refine ⟨⟨_, Tryd.func67, by kernel_rfl, by kernel_rfl⟩, fun w hs => ?_⟩
  refine (Any.utf8_ValidString Tryd.valid (str l) w (by rw [str_sz]; exact hl) (tabs_sim hS.head hs)).mono fun e w' ⟨he, hb⟩ => ⟨low m w', Sim.low _ _, _, he, [], ⟨?_, rfl⟩, ?_⟩
  · rw [str_data, valid_eq]
  · have h0 : m.drawn = 0 := hS.head.2.2.2
    refine Tr.drop (H := []) (F := [tabA]) (hS.calm ⟨hb.os.trans hs.os, hb.tape.trans hs.tape, hb.output.trans hs.output, by rw [low_heap, ← hs.size]; exact hb.size, fun k hk _ => ?_, dle.low (by rw [h0]; exact Nat.zero_le _)⟩)
    rw [low_heap, hb.block k (by rw [hs.size]; exact hk), hs.heap]
theorem ucheck_s (l : List UInt8) (hl : l.length ≤ 9223372036854775807) : DoS Tryd.prog 48 [.string (str l)] [tabA] (fun r H => r = .bool (runesL l).isSome ∧ H = []) := by
  intro m0 X hS
  refine FnE.enter ⟨_, Tryd.func48, by kernel_rfl, by kernel_rfl⟩ Tryd.func48 rfl rfl ?_
  (with_reducible repeat (first | refine WP.S1 ?_ | refine WP.B1 ?_ | refine WP.R1 ?_))
  refine RL.A1 T_ok rfl ?_
  refine RL.N1 ?_; (with_reducible repeat (first | refine QN.B1 ?_ | refine QN.N1 ?_ | refine WP.S1 ?_ | refine WP.B1 ?_ | refine WP.R1 ?_))
  refine RL.A1 T_ok rfl ?_
  refine RL.callM (fi := []) (ca := []) hS (valid_s l hl) rfl rfl rfl rfl (by repeat (first | with_reducible exact Sels.nil | apply Sels.ro (by with_reducible repeat (first | exact zS .. | apply zO)) (by rfl) | apply Sels.own (by with_reducible repeat (first | exact Sel.head | apply Sel.tail)))) ?_
  (try clear hS); rintro _ m _ ⟨rfl, rfl⟩ hS; (try simp only [zC, zN] at hS); refine ⟨_, rfl, ?_⟩
  refine RL.A1 T_ok rfl ?_
  refine RL.N1 ?_; (with_reducible repeat (first | refine QN.B1 ?_ | refine QN.N1 ?_ | refine WP.S1 ?_ | refine WP.B1 ?_ | refine WP.R1 ?_))
  refine WP.ret ?_; (with_reducible repeat (first | refine QN.tr ?_ | refine QN.br ?_))
  exact QN.ret1 rfl rfl ⟨_, rfl, _, ⟨rfl, rfl⟩, Tr.drop (H := []) (F := [tabA]) hS⟩
end Go.Proofs.YtmjpcaiehfimgaaDoor
end
section
namespace Go.Ev
open Go.RowKit Go.Sort Go.Shelf Go.Proofs
theorem grow_of_ext {W m' w' : World} (hE : Ext W [] m') (hs : Sim m' w') : ∃ q os', w' = grow (W.drewN q) os' := by
  refine ⟨w'.drawn - W.drawn, w'.heap.extract W.heap.size w'.heap.size, ?_⟩
  have h1 : W.drawn ≤ w'.drawn := Nat.le_trans hE.drawn.1 hs.drawn
  have h2 : W.heap ++ w'.heap.extract W.heap.size w'.heap.size = w'.heap := by
    have hsz : W.heap.size ≤ w'.heap.size := by rw [hs.heap]; exact hE.size
    apply Array.ext
    · simp; omega
    · intro i h3 h4
      by_cases hi : i < W.heap.size
      · rw [Array.getElem_append_left hi]
        have := hE.far i hi (by simp)
        rw [← hs.heap] at this
        rw [Array.getElem?_eq_getElem hi, Array.getElem?_eq_getElem h4] at this
        exact (Option.some.inj this).symm
      · rw [Array.getElem_append_right (by omega), Array.getElem_extract]
        congr 1; omega
  obtain ⟨h, t, d, o, u⟩ := w'
  obtain ⟨h', t', d', o', u'⟩ := W
  have e1 : t = t' := hs.tape.trans hE.tape
  have e2 : o = o' := hs.os.trans hE.os
  have e3 : u = u' := hs.output.trans hE.output
  subst e1; subst e2; subst e3
  simp only at h1 h2
  unfold grow World.drewN
  simp only
  rw [h2]
  congr 1; omega
theorem _root_.Go.Ev.Own.putK {m : World} {S : List Nat} {t : TypeId} {sz : Nat} {v : Value} {n j k : Nat} {xs : List Value} (h : Own m S t sz v n xs) (hk : 0 < k) (hj : j + k ≤ n * sz) :
    ∃ g cap cur, v = .slice (some ⟨g, 0, none⟩) n cap ∧ Blk m g t cur ∧ S = [g] ∧ j + k ≤ cur.length ∧ ∀ m' vs, vs.length = k → Chg m g (.cells (cur.take j ++ vs ++ cur.drop (j + k)).toArray t (0, 0)) m' → Own m' S t sz v n (xs.take j ++ vs ++ xs.drop (j + k)) := by
  have hn : 0 < n := by
    rcases Nat.eq_zero_or_pos n with h0 | h0
    · subst h0; simp at hj; omega
    · exact h0
  obtain ⟨g, cap, cur, rfl, hB, hcap, hcm, hcl, hct, rfl⟩ := h.at_ hn
  have hlen := h.1
  have hjc : j + k ≤ cur.length := by rw [hcl]; exact Nat.le_trans hj (Nat.mul_le_mul_right _ hcap)
  obtain ⟨rest, rfl⟩ : ∃ rest, cur = xs ++ rest := ⟨cur.drop (n * sz), by rw [← hct, List.take_append_drop]⟩
  refine ⟨g, cap, _, rfl, hB, rfl, hjc, fun m' vs hv hC => ?_⟩
  have e1 : (xs ++ rest).take j = xs.take j := List.take_append_of_le_length (by omega)
  have e2 : (xs ++ rest).drop (j + k) = xs.drop (j + k) ++ rest := List.drop_append_of_le_length (by omega)
  have e3 : (xs.take j ++ vs ++ xs.drop (j + k)).length = n * sz := by simp [hv]; omega
  rw [e1, e2] at hC
  refine ⟨e3, .inr ⟨g, cap, _, rfl, hC.blk, hcap, hcm, ?_, ?_, rfl⟩⟩
  · rw [← hcl]
    simp only [List.length_append, List.length_take, List.length_drop, hv]; omega
  · rw [← List.append_assoc, ← e3, List.take_left]
section
variable {α : Type} [Inhabited α]
omit [Inhabited α] in
theorem flatMap_get (enc : α → List Value) (k : Nat) (hk : ∀ x, (enc x).length = k) : ∀ (l : List α) (i j : Nat), j < k → (h : i < l.length) → (l.flatMap enc)[i * k + j]? = (enc l[i])[j]?
  | x :: l, 0, j, hj, _ => by
    rw [List.flatMap_cons, List.getElem?_append_left (by rw [hk]; omega)]
    simp
  | x :: l, i + 1, j, hj, h => by
    rw [List.flatMap_cons, List.getElem?_append_right (by rw [hk, Nat.succ_mul]; omega), hk]
    rw [show (i + 1) * k + j - k = i * k + j by rw [Nat.succ_mul]; omega]
    rw [flatMap_get enc k hk l i j hj (by simpa using h)]
    simp
omit [Inhabited α] in
theorem flatMap_len (enc : α → List Value) (k : Nat) (hk : ∀ x, (enc x).length = k) : ∀ l : List α, (l.flatMap enc).length = l.length * k
  | [] => by simp
  | x :: l => by rw [List.flatMap_cons, List.length_append, hk, flatMap_len enc k hk l, List.length_cons, Nat.succ_mul, Nat.add_comm]
theorem flatK_list (enc : α → List Value) (k : Nat) (hk : ∀ x, (enc x).length = k) (hk0 : 0 < k) (d : Array α) : flatK enc k d = (d.toList.flatMap enc).toArray := by
  apply ext_get!
  · have h9 := flatMap_len enc k hk d.toList
    rw [show d.toList.length = d.size from Array.length_toList] at h9
    rw [size_flatK, ← h9]
    exact (List.size_toArray ..).symm
  · intro t ht
    rw [size_flatK] at ht
    rw [get_flatK _ _ _ _ ht]
    have hq : t / k < d.toList.length := by rw [Array.length_toList]; exact Nat.div_lt_of_lt_mul (by rw [Nat.mul_comm]; exact ht)
    have hm : t % k < k := Nat.mod_lt _ hk0
    have h1 := flatMap_get enc k hk d.toList (t / k) (t % k) hm hq
    rw [Nat.mul_comm, Nat.div_add_mod] at h1
    have h2 : t < (d.toList.flatMap enc).length := by rw [flatMap_len enc k hk, Array.length_toList]; exact ht
    rw [List.getElem?_eq_getElem h2, List.getElem?_eq_getElem (by rw [hk]; exact hm)] at h1
    rw [getElem!_pos (d.toList.flatMap enc).toArray t (by simpa using h2)]
    have h3 : d[t / k]! = d.toList[t / k] := by rw [getElem!_pos d _ (by simpa using hq)]; simp
    rw [h3, getElem!_pos (enc d.toList[t / k]) _ (by rw [hk]; exact hm)]
    simpa using (Option.some.inj h1).symm
theorem putCells_list (F : List Value) (cur : List Value) (h : F.length ≤ cur.length) : putCells id 0 F.toArray cur.toArray = (F ++ cur.drop F.length).toArray := by
  unfold putCells
  apply Array.ext
  · simp; omega
  · intro i h1 h2
    simp only [Array.getElem_mapIdx, Nat.zero_le, true_and, Nat.zero_add, List.size_toArray, Nat.sub_zero, id]
    by_cases hi : i < F.length
    · rw [if_pos hi, getElem!_pos F.toArray i (by simpa using hi)]
      simp [List.getElem_append_left hi]
    · rw [if_neg hi]
      simp [List.getElem_append_right (Nat.le_of_not_lt hi)]
      congr 1; omega
theorem sortFunc_run {P : Program} {ρ : Ren} (L : SlLaysF0.n6 P ρ) (k : Nat) (hk0 : 0 < k) (aE : ∀ w, (isAgg (ρ.t 24)).run P w = .ok true w) (zE : ∀ w, (Go.sizeOf (ρ.t 24)).run P w = .ok k w) (enc : α → List Value) (hk : ∀ x, (enc x).length = k) (h1 : ∀ x, ∀ v ∈ enc x, v.oneCell' = true)
    (cf : α → α → Int) (hO : SWO (ltOf cf)) (g : Nat) (hcg : Callable P g) (hcs : Callable P (ρ.f 6)) (hcmp : ∀ W x y, FnR P g [.agg (enc x).toArray, .agg (enc y).toArray] W fun r m' => r = .int .i64 (cf x y) ∧ Ext W [] m')
    {m : World} {S : List Nat} {te : TypeId} {v : Value} {l : List α} (hown : Own m S te k v l.length (l.flatMap enc)) (hl : l.length < 4611686018427387904) :
    FnR P (ρ.f 6) [v, .func (.func g) #[] #[]] m fun r m' => r = .tuple #[] ∧ Ext m S m' ∧ ∃ l' : List α, l'.Perm l ∧ l'.Pairwise (fun x y => ltOf cf y x = false) ∧ Own m' S te k v l'.length (l'.flatMap enc) := by
  have eg : ∀ args w, (callFunc g args).run P w = .ok (.enter g args) w := fun args w => callFunc_run hcg args w
  refine ⟨hcs, fun w hs => ?_⟩
  by_cases hn0 : l.length = 0
  · have hl0 : l = [] := List.eq_nil_of_length_eq_zero hn0
    subst hl0
    obtain ⟨A, c, rfl, _⟩ := hown.shape
    refine (AnyF.slices_SortFunc_none L A c (.func (.func g) #[] #[]) w).mono ?_
    rintro e w' ⟨rfl, rfl⟩
    exact ⟨m, hs, _, rfl, rfl, Ext.refl _ _, [], List.Perm.refl _, List.Pairwise.nil, hown⟩
  obtain ⟨b, cap, cur, rfl, hB, hnc, hcm, hcl, htake, rfl⟩ := hown.at_ (by omega)
  have hw : w.heap[b]? = some (.cells cur.toArray te (0, 0)) := by rw [hs.heap]; exact hB
  have hfl := flatMap_len enc k hk l
  have hcur : (l.flatMap enc).length ≤ cur.length := by rw [hfl, hcl]; exact Nat.mul_le_mul_right _ hnc
  have hF := flatK_list enc k hk hk0 l.toArray
  have hH : HoldsK enc k w b 0 l.toArray := by
    intro j hj
    rw [size_flatK, List.size_toArray] at hj
    rw [hF]
    have hj' : j < (l.flatMap enc).length := by rw [hfl]; exact hj
    have hjc : j < cur.length := by omega
    have hx : cur[j] = (l.flatMap enc)[j] := by
      have : (cur.take (l.length * k))[j]? = (l.flatMap enc)[j]? := by rw [htake]
      rw [List.getElem?_take, if_pos hj, List.getElem?_eq_getElem hjc, List.getElem?_eq_getElem hj'] at this
      exact Option.some.inj this
    constructor
    · simp only [Nat.zero_add, World.cell?, hw, id]
      rw [getElem!_pos _ j (by simpa using hj')]
      simp [hjc, hx]
    · simp only [Nat.zero_add, World.frozen?, hw]
      simp
  have hlays : CmpLays P g #[] enc k cf b 0 l.toArray.size w := fun q os dk _ x y => by
    have h2 := (hcmp (sortWorldK enc k w b 0 q dk os) x y).2 _ (Sim.refl _)
    refine Calls.mono h2 ?_
    rintro e w' ⟨m', hs', r, rfl, rfl, hE⟩
    exact ⟨rfl, grow_of_ext hE hs'⟩
  have hcall := AnyQ.slices_SortFunc L k aE zE enc hk h1 cf hO g #[] b 0 cap l.toArray w eg hlays hH (by rw [hs.size]; exact hB.lt) (by simpa using hl)
  simp only [List.size_toArray] at hcall
  refine Calls.mono hcall ?_
  rintro e w' ⟨rfl, d', q, os, hp, hsrt, rfl⟩
  obtain ⟨hp1, _, hp2⟩ := hp
  have hsz' : d'.size = l.length := by simpa using hp1
  have hperm : d'.toList.Perm l := by
    have e1 : (d'.extract 0 l.length).toList = d'.toList := by simp [← hsz']
    have e2 : (l.toArray.extract 0 l.length).toList = l := by simp
    rw [e1, e2] at hp2; exact hp2
  have hF' := flatK_list enc k hk hk0 d'
  have hlen' : (d'.toList.flatMap enc).length = (l.flatMap enc).length := by rw [flatMap_len enc k hk, hfl, Array.length_toList, hsz']
  -- the world behind
  have hheap : (putRowK enc k (Go.Sort.ahead w q) b 0 d').heap[b]? = some (.cells (d'.toList.flatMap enc ++ cur.drop (l.flatMap enc).length).toArray te (0, 0)) := by
    unfold putRowK putRow mapBlock
    rw [hF']
    show (w.heap.modify b _)[b]? = _
    rw [Array.getElem?_modify, if_pos rfl, hw]
    simp only [Option.map_some, onCells]
    rw [putCells_list _ _ (by rw [hlen']; exact hcur), hlen']
  have hother : ∀ j, j ≠ b → (putRowK enc k (Go.Sort.ahead w q) b 0 d').heap[j]? = w.heap[j]? := fun j hj => by
    unfold putRowK putRow mapBlock
    show (w.heap.modify b _)[j]? = _
    rw [Array.getElem?_modify, if_neg (Ne.symm hj)]
  have hsize : (putRowK enc k (Go.Sort.ahead w q) b 0 d').heap.size = w.heap.size := by
    unfold putRowK putRow mapBlock
    show (w.heap.modify b _).size = _
    simp
  have hgrow : ∀ j, j < w.heap.size → (sortWorldK enc k w b 0 q d' os).heap[j]? = (putRowK enc k (Go.Sort.ahead w q) b 0 d').heap[j]? := fun j hj => by
    unfold sortWorldK grow
    show (_ ++ os)[j]? = _
    rw [Array.getElem?_append_left (by rw [hsize]; exact hj)]
  have hbw : b < w.heap.size := by rw [hs.size]; exact hB.lt
  refine ⟨low m (sortWorldK enc k w b 0 q d' os), Sim.low _ _, _, rfl, rfl, ?_, d'.toList, hperm, ?_, ?_⟩
  · refine ⟨?_, ?_, ?_, ?_, fun j hj hn => ?_, ?_⟩
    · exact hs.os
    · exact hs.tape
    · exact hs.output
    · show m.heap.size ≤ (_ ++ os).size
      rw [Array.size_append, hsize, hs.size]; omega
    · rw [low_heap, hgrow j (by rw [hs.size]; exact hj), hother j (by simpa using hn), hs.heap]
    · refine dle.low ?_
      show m.drawn ≤ w.drawn + q
      have := hs.drawn; omega
  · rw [List.pairwise_iff_getElem]
    intro i j hi hj hij
    have := hsrt i j (Nat.zero_le _) hij (by simpa [hsz'] using hj)
    rw [getElem!_pos d' i (by simpa using hi), getElem!_pos d' j (by simpa using hj)] at this
    simpa using this
  · have hlen2 : d'.toList.length = l.length := by rw [Array.length_toList, hsz']
    refine ⟨by rw [hlen', hfl, hlen2], .inr ⟨b, cap, d'.toList.flatMap enc ++ cur.drop (l.flatMap enc).length, by rw [hlen2], ?_, by rw [hlen2]; exact hnc, hcm, ?_, ?_, rfl⟩⟩
    · show (sortWorldK enc k w b 0 q d' os).heap[b]? = _
      rw [hgrow b hbw, hheap]
    · rw [List.length_append, hlen', List.length_drop, hcl]
      rw [hcl] at hcur; omega
    · rw [hlen2, ← hfl, ← hlen']
      exact List.take_left
end
end Go.Ev
end
section
namespace Go.Proofs.YtmjpcaiehfimgaaDoor
open Go.RowKit Go.Ev Go.Ids Go.Mrg
def cC (x : Clk) : List Value := [.int .u64 x.c, .int .u64 x.k]
def cV (x : Clk) : Value := .agg (cC x).toArray
theorem cC_one (x : Clk) : ∀ v ∈ cC x, v.oneCell' = true := by intro v hv; simp [cC] at hv; rcases hv with rfl | rfl <;> rfl
theorem csC_len : ∀ l : List Clk, (l.flatMap cC).length = l.length * 2
  | [] => rfl
  | x :: l => by simp [cC, csC_len l]; omega
theorem csC_get : ∀ (l : List Clk) (k : Nat) (h : k < l.length) (j : Nat), j < 2 → (l.flatMap cC)[k * 2 + j]? = (cC l[k])[j]?
  | x :: l, 0, _, j, hj => by
    rw [List.flatMap_cons, List.getElem?_append_left (by simp [cC]; omega)]
    simp
  | x :: l, k + 1, h, j, hj => by
    rw [List.flatMap_cons, List.getElem?_append_right (by simp [cC]; omega)]
    have : (k + 1) * 2 + j - (cC x).length = k * 2 + j := by simp [cC]; omega
    rw [this, csC_get l k (by simpa using h) j hj]
    simp
theorem csC_one (l : List Clk) : ∀ u ∈ l.flatMap cC, u.oneCell' = true := by
  intro u hu
  obtain ⟨x, _, hx⟩ := List.mem_flatMap.1 hu
  exact cC_one x u hx
def Cs (m : World) (M : List Nat) (v : Value) (l : List Clk) : Prop := Sl m M 2 v (l.flatMap cC)
theorem Cs.shape {m : World} {M : List Nat} {v : Value} {l : List Clk} (h : Cs m M v l) : ∃ A c, v = .slice A l.length c ∧ l.length ≤ c ∧ c ≤ maxLen := Sl.shape h (csC_len l) (by omega)
theorem Cs.ext0 {m m' : World} {v : Value} {l : List Clk} (h : Cs m [] v l) (hE : Ext m [] m') : Cs m' [] v l := Sl.ext h hE (by simp) (by omega)
theorem Cs.cell {m : World} {M : List Nat} {A : Option Addr} {n c : Nat} {l : List Clk} (h : Cs m M (.slice A n c) l) (k : Nat) (hk : k < l.length) : ∃ ad, A = some ad ∧ ∀ j u, (cC l[k])[j]? = some u → m.cell? ((ad.add (k * 2)).add j) = some u := by
  obtain ⟨hl, _⟩ := Sl.len h
  rw [csC_len] at hl
  obtain ⟨ad, rfl, _, hc⟩ := Sl.addr h (by omega)
  refine ⟨ad, rfl, fun j u hu => ?_⟩
  have hj : j < 2 := by have := (List.getElem?_eq_some_iff.1 hu).1; simpa [cC] using this
  rw [add_add]
  exact hc _ u (by rw [csC_get l k hk j hj]; exact hu)
theorem cS_at {m : World} {M : List Nat} {ad : Addr} {n c : Nat} {l : List Clk} (h : Cs m M (.slice (some ad) n c) l) (k : Nat) (hk : k < l.length) : ∀ j u, (cC l[k])[j]? = some u → m.cell? ((ad.add (k * 2)).add j) = some u := by
  obtain ⟨_, h1, h2⟩ := h.cell k hk
  cases h1; exact h2
theorem csC_take (l : List Clk) (k : Nat) : (l.flatMap cC).take (k * 2) = (l.take k).flatMap cC := by
  induction k generalizing l with
  | zero => simp
  | succ k ih =>
    cases l with
    | nil => simp
    | cons x l =>
      rw [List.flatMap_cons, List.take_succ_cons, List.flatMap_cons, ← ih l, Nat.succ_mul, Nat.add_comm]
      exact List.take_length_add_append (l₁ := cC x) (k * 2)
theorem csC_drop (l : List Clk) (k : Nat) : (l.flatMap cC).drop (k * 2) = (l.drop k).flatMap cC := by
  induction k generalizing l with
  | zero => simp
  | succ k ih =>
    cases l with
    | nil => simp
    | cons x l =>
      rw [List.flatMap_cons, List.drop_succ_cons, ← ih l, Nat.succ_mul, Nat.add_comm, ← List.drop_drop]
      rfl
theorem csC_set (l : List Clk) (p : Nat) (y : Clk) (h : p < l.length) : (l.flatMap cC).take (p * 2) ++ cC y ++ (l.flatMap cC).drop (p * 2 + 2) = (l.set p y).flatMap cC := by
  rw [csC_take, show p * 2 + 2 = (p + 1) * 2 by omega, csC_drop, List.set_eq_take_append_cons_drop, if_pos h]; simp
theorem csC_app (a b : List Clk) : a.flatMap cC ++ b.flatMap cC = (a ++ b).flatMap cC := by simp
end Go.Proofs.YtmjpcaiehfimgaaDoor
end
section
namespace Go.Proofs.YtmjpcaiehfimgaaDoor
open Go.RowKit Go.Ev Go.Ids Go.Mrg Go.Sort
def CR (m : World) (S : List Nat) (A : Option Addr) (n c : Nat) (l : List Clk) : Prop := Ev.Own m S 39 2 (.slice A n c) n (l.flatMap cC)
theorem CR.len {m : World} {S : List Nat} {A : Option Addr} {n c : Nat} {l : List Clk} (h : CR m S A n c l) : l.length = n := by
  have := h.1
  rw [csC_len] at this; omega
theorem swapR_c (m : World) (S : List Nat) (A : Option Addr) (n c : Nat) (l : List Clk) (a b k : Nat) (f : Value) (h : CR m S A n c l) (h1 : a + k ≤ b) (h2 : b + k ≤ n) (hn : n < 1000000000) :
    FnR Tryd.prog 91 [.slice A n c, .int .i64 a, .int .i64 b, .int .i64 k, f] m fun r m' => r = .tuple #[] ∧ Ext m S m' ∧ CR m' S A n c (swr l a b k) := by
  refine FnE.enter ⟨_, Tryd.func91, by kernel_rfl, by kernel_rfl⟩ Tryd.func91 rfl rfl ?_
  (with_reducible repeat (first | refine WP.S1 ?_ | refine WP.B1 ?_ | refine WP.R1 ?_))
  refine RL.A1 T_ok rfl ?_
  refine RL.N1 ?_; (with_reducible repeat (first | refine QN.B1 ?_ | refine QN.N1 ?_ | refine WP.S1 ?_ | refine WP.B1 ?_ | refine WP.R1 ?_))
  refine (WP.loop (X := Nat) (fun i => [(0, .slice A n c), (1, .int .i64 a), (2, .int .i64 b), (3, .int .i64 k), (10, .int .i64 i)])
    (fun i m' => i ≤ k ∧ CR m' S A n c (swr l a b i) ∧ Ext m S m') (fun i => k - i) 0
    (Sub.C1 rfl (Sub.C1 rfl (Sub.C1 rfl (Sub.C1 rfl (Sub.C1 rfl Sub.nil))))) ⟨Nat.zero_le _, h, Ext.refl _ _⟩ ?_)
  rintro i m1 ⟨hi, hO, hE⟩
  have hlen := hO.len
  (with_reducible repeat (first | refine WP.S1 ?_ | refine WP.B1 ?_ | refine WP.R1 ?_))
  refine RL.A1 T_ok rfl ?_
  refine RL.N1 ?_; (with_reducible repeat (first | refine QN.B1 ?_ | refine QN.N1 ?_ | refine WP.S1 ?_ | refine WP.B1 ?_ | refine WP.R1 ?_))
  refine WP.cond rfl (fun hc => ?_) (fun hc => ?_)
  · replace hc : i < k := by have := of_decide_eq_true hc; omega
    have hnx : swr l a b (i + 1) = sw (swr l a b i) (a + i) (b + i) := rfl
    generalize swr l a b i = l1 at hO hlen hnx
    refine WP.skip ?_; (with_reducible repeat (first | refine QN.B1 ?_ | refine QN.N1 ?_))
    refine WP.S1 ?_
    refine WP.B1 ?_
    obtain ⟨g0, cap0, cur0, hv8, hB8, rfl, hj8, hset⟩ := hO.putK (j := (a + i) * 2) (k := 2) (by omega) (by omega)
    injection hv8 with hv8 hv8b hv8c
    subst hv8
    have hR : Cs m1 [] (.slice (some ⟨g0, 0, none⟩) n c) l1 := hO.sl (by simp)
    refine WP.drawQ (fun m' => m' = m1) [4, 5, 6, 7, 14, 15, 16, 17, 21, 22, 23] (by kernel_rfl) rfl (by with_reducible repeat (first | exact PanicOk.body | refine PanicOk.then_ ?_ | refine PanicOk.block_ ?_)) (fun hQ => ?_)
    refine RH.pureF T_ok hQ [4, 5, 6, 7] (by kernel_rfl) rfl ?_
    refine RH.eqv (v' := .int .i64 ((b + i : Nat) : Int)) (congrArg _ (by rw [wrap_i64_in _ (by omega) (by omega)]; omega)) ?_
    refine RH.pureF T_ok hQ [14, 15, 16, 17] (by kernel_rfl) rfl ?_
    refine RH.eqv (v' := .int .i64 ((a + i : Nat) : Int)) (congrArg _ (by rw [wrap_i64_in _ (by omega) (by omega)]; omega)) ?_
    refine RH.pure T_ok hQ [0, 1, 2, 3] (by kernel_rfl) rfl ?_
    refine RH.eqv (v' := .int .i64 ((a + i : Nat) : Int)) (congrArg _ (by rw [wrap_i64_in _ (by omega) (by omega)]; omega)) ?_
    refine RH.pure T_ok hQ [8, 9, 10, 11] (by kernel_rfl) rfl ?_
    refine RH.eqv (v' := .int .i64 ((b + i : Nat) : Int)) (congrArg _ (by rw [wrap_i64_in _ (by omega) (by omega)]; omega)) ?_
    refine RH.indexAddr T_ok hQ 12 (k := b + i) rfl (by kernel_rfl) rfl rfl rfl rfl rfl rfl rfl (by omega) rfl ?_
    refine RH.loadAgg T_ok hQ 13 (cC l1[b + i]) (fun m' hm' => by rw [hm']; exact cS_at hR (b + i) (by omega)) rfl (by kernel_rfl) rfl rfl rfl rfl ?_
    refine RH.indexAddr T_ok hQ 18 (k := a + i) rfl (by kernel_rfl) rfl rfl rfl rfl rfl rfl rfl (by omega) rfl ?_
    refine RH.loadAgg T_ok hQ 19 (cC l1[a + i]) (fun m' hm' => by rw [hm']; exact cS_at hR (a + i) (by omega)) rfl (by kernel_rfl) rfl rfl rfl rfl ?_
    refine RH.indexAddr T_ok hQ 20 (k := a + i) rfl (by kernel_rfl) rfl rfl rfl rfl rfl rfl rfl (by omega) rfl ?_
    refine RH.eqv (v' := .pointer (some ⟨g0, (a + i) * 2, none⟩)) (congrArg (fun q => Value.pointer (some q)) (by rw [add_block, Nat.zero_add])) ?_
    refine RH.only 21 rfl (by kernel_rfl) (fun _ => ?_)
    refine RL.storeAgg T_ok (b := g0) (i := (a + i) * 2) (vs := cC l1[b + i]) (cs := cur0) hB8 rfl rfl rfl rfl rfl hj8 (cC_one _) rfl ?_
    intro m8 hC8
    have hO8 := hset m8 _ rfl hC8
    rw [csC_set l1 (a + i) _ (by omega)] at hO8
    refine RL.N1 (RF.cont (by kernel_rfl) ?_)
    refine RF.only 22 rfl (by kernel_rfl) ?_
    refine RL.indexAddr (k := b + i) T_ok rfl rfl rfl rfl rfl rfl rfl (by omega) rfl ?_
    refine RL.eqv (v' := .pointer (some ⟨g0, (b + i) * 2, none⟩)) (congrArg (fun q => Value.pointer (some q)) (by rw [add_block, Nat.zero_add])) ?_
    refine RL.N1 (RF.cont (by kernel_rfl) ?_)
    obtain ⟨g1, cap1, cur1, hv9, hB9, hS9, hj9, hset9⟩ := hO8.putK (j := (b + i) * 2) (k := 2) (by omega) (by omega)
    cases hv9
    refine RF.only 23 rfl (by kernel_rfl) ?_
    refine RL.storeAgg T_ok (b := g0) (i := (b + i) * 2) (vs := cC l1[a + i]) (cs := cur1) hB9 rfl rfl rfl rfl rfl hj9 (cC_one _) rfl ?_
    intro m9 hC9
    have hO9 := hset9 m9 _ rfl hC9
    rw [csC_set _ (b + i) _ (by rw [List.length_set]; omega), ← sw_of (p := a + i) (q := b + i) (by omega) (by omega)] at hO9
    have hE9 : Ext m1 [g0] m9 := hC8.ext.trans hC9.ext (fun k hk => .inl hk)
    refine RL.N1 (RF.cont (by kernel_rfl) ?_)
    refine RF.done (by kernel_rfl) ?_
    (with_reducible repeat (first | refine QN.B1 ?_ | refine QN.N1 ?_))
    (with_reducible repeat (first | refine WP.S1 ?_ | refine WP.B1 ?_ | refine WP.R1 ?_))
    refine RL.pure T_ok 2 rfl ?_
    refine RL.eqv (v' := .int .i64 ((i + 1 : Nat) : Int)) (congrArg _ (by rw [wrap_i64_in _ (by omega) (by omega)]; rfl)) ?_
    refine RL.A1 T_ok rfl ?_
    refine RL.N1 (QN.round (i + 1) (Sub.C1 rfl (Sub.C1 rfl (Sub.C1 rfl (Sub.C1 rfl (Sub.C1 rfl Sub.nil))))) ⟨hc, ?_, hE.trans hE9 (fun k hk => .inl hk)⟩ (by omega))
    rw [hnx]; exact hO9
  · replace hc : i = k := by have := of_decide_eq_false hc; omega
    subst hc
    refine WP.exit ?_
    (with_reducible repeat (first | refine QN.tx ?_ | refine QN.bx ?_ | refine QN.block_far rfl ?_ | refine QN.B1 ?_ | refine QN.N1 ?_))
    exact QN.end0 rfl ⟨_, rfl, rfl, hE, hO⟩
theorem rotate_c (m : World) (S : List Nat) (A : Option Addr) (n c : Nat) (l : List Clk) (a md b : Nat) (f : Value) (h : CR m S A n c l) (h1 : a < md) (h2 : md < b) (hb : b ≤ n) (hn : n < 1000000000) :
    FnR Tryd.prog 90 [.slice A n c, .int .i64 a, .int .i64 md, .int .i64 b, f] m fun r m' => r = .tuple #[] ∧ Ext m S m' ∧ ∃ l', CR m' S A n c l' ∧ Seg a b l l' ∧ Rot l l' md (md - a) (b - md) := by
  refine FnE.enter ⟨_, Tryd.func90, by kernel_rfl, by kernel_rfl⟩ Tryd.func90 rfl rfl ?_
  (with_reducible repeat (first | refine WP.S1 ?_ | refine WP.B1 ?_ | refine WP.R1 ?_))
  refine RL.pure T_ok 3 rfl ?_
  refine RL.eqv (v' := .int .i64 ((md - a : Nat) : Int)) (congrArg _ (by rw [wrap_i64_in _ (by first | omega | (simp only; omega)) (by first | omega | (simp only; omega))]; first | omega | (simp only; omega))) ?_
  refine RL.A1 T_ok rfl ?_
  refine RL.N1 ?_; (with_reducible repeat (first | refine QN.B1 ?_ | refine QN.N1 ?_ | refine WP.S1 ?_ | refine WP.B1 ?_ | refine WP.R1 ?_))
  refine RL.pure T_ok 3 rfl ?_
  refine RL.eqv (v' := .int .i64 ((b - md : Nat) : Int)) (congrArg _ (by rw [wrap_i64_in _ (by first | omega | (simp only; omega)) (by first | omega | (simp only; omega))]; first | omega | (simp only; omega))) ?_
  refine RL.A1 T_ok rfl ?_
  refine RL.N1 ?_; (with_reducible repeat (first | refine QN.B1 ?_ | refine QN.N1 ?_ | refine WP.S1 ?_ | refine WP.B1 ?_ | refine WP.R1 ?_))
  refine (WP.loop (X := Nat × Nat × List Clk) (fun q => [(0, .slice A n c), (2, .int .i64 md), (4, f), (10, .int .i64 q.1), (11, .int .i64 q.2.1)])
    (fun q m' => 1 ≤ q.1 ∧ 1 ≤ q.2.1 ∧ q.1 ≤ md - a ∧ q.2.1 ≤ b - md ∧ CR m' S A n c q.2.2 ∧ Ext m S m' ∧ Seg a b l q.2.2 ∧ (∀ l', Rot q.2.2 l' md q.1 q.2.1 → Rot l l' md (md - a) (b - md))) (fun q => q.1 + q.2.1) (md - a, b - md, l)
    (Sub.C1 rfl (Sub.C1 rfl (Sub.C1 rfl (Sub.C1 rfl (Sub.C1 rfl Sub.nil))))) ⟨by show 1 ≤ md - a; omega, by show 1 ≤ b - md; omega, Nat.le_refl _, Nat.le_refl _, h, Ext.refl _ _, Seg.refl _ _ _, fun _ hh => hh⟩ ?_)
  rintro ⟨i, j, l1⟩ m1 ⟨hi, hj, hia, hjb, hO, hE, hS, hR⟩
  simp only at hi hj hia hjb hO hS hR
  have hlen := hO.len
  (with_reducible repeat (first | refine WP.S1 ?_ | refine WP.B1 ?_ | refine WP.R1 ?_))
  refine RL.pure T_ok 3 rfl ?_
  by_cases hij : i = j
  · refine RL.eqv (v' := .bool false) (congrArg _ (by rw [bne_nat']; exact decide_eq_false (fun hh => hh hij))) ?_
    subst hij
    refine RL.N1 ?_; (with_reducible repeat (first | refine QN.B1 ?_ | refine QN.N1 ?_ | refine WP.S1 ?_ | refine WP.B1 ?_ | refine WP.R1 ?_))
    refine WP.condF rfl ?_
    refine WP.exit ?_; (with_reducible repeat (first | refine QN.tx ?_ | refine QN.bx ?_ | refine QN.block_far rfl ?_ | refine QN.B1 ?_ | refine QN.N1 ?_)); (with_reducible repeat (first | refine WP.S1 ?_ | refine WP.B1 ?_ | refine WP.R1 ?_))
    refine RL.pure T_ok 4 rfl ?_
    refine RL.eqv (v' := .int .i64 ((md - i : Nat) : Int)) (congrArg _ (by rw [wrap_i64_in _ (by first | omega | (simp only; omega)) (by first | omega | (simp only; omega))]; first | omega | (simp only; omega))) ?_
    refine RL.A1 T_ok rfl ?_
    refine RL.call (fi := []) (ca := []) rfl rfl rfl rfl (swapR_c m1 S A n c l1 (md - i) md i f hO (by omega) (by omega) hn) ?_
    rintro _ m2 ⟨rfl, hE2, hO2⟩
    refine ⟨_, rfl, ?_⟩
    refine RL.N1 (QN.end0 rfl ⟨_, rfl, rfl, hE.trans hE2 (fun k hk => .inl hk), _, hO2, hS.trans (Seg.swr (by omega) (by omega) (by omega) (by omega)), hR _ (Rot.last (by omega) (by omega))⟩)
  · refine RL.eqv (v' := .bool true) (congrArg _ (by rw [bne_nat']; exact decide_eq_true hij)) ?_
    refine RL.N1 ?_; (with_reducible repeat (first | refine QN.B1 ?_ | refine QN.N1 ?_ | refine WP.S1 ?_ | refine WP.B1 ?_ | refine WP.R1 ?_))
    refine WP.condT rfl ?_
    refine WP.skip ?_; (with_reducible repeat (first | refine QN.B1 ?_ | refine QN.N1 ?_ | refine WP.S1 ?_ | refine WP.B1 ?_ | refine WP.R1 ?_))
    refine RL.pure T_ok 3 rfl ?_
    by_cases hlt : j < i
    · refine RL.eqv (v' := .bool true) (congrArg _ (decide_eq_true (by first | omega | (simp only; omega)))) ?_
      refine RL.N1 ?_; (with_reducible repeat (first | refine QN.B1 ?_ | refine QN.N1 ?_ | refine WP.S1 ?_ | refine WP.B1 ?_ | refine WP.R1 ?_))
      refine WP.condT rfl ?_
      (with_reducible repeat (first | refine WP.S1 ?_ | refine WP.B1 ?_ | refine WP.R1 ?_))
      refine RL.pure T_ok 4 rfl ?_
      refine RL.eqv (v' := .int .i64 ((md - i : Nat) : Int)) (congrArg _ (by rw [wrap_i64_in _ (by first | omega | (simp only; omega)) (by first | omega | (simp only; omega))]; first | omega | (simp only; omega))) ?_
      refine RL.A1 T_ok rfl ?_
      refine RL.call (fi := []) (ca := []) rfl rfl rfl rfl (swapR_c m1 S A n c l1 (md - i) md j f hO (by omega) (by omega) hn) ?_
      rintro _ m2 ⟨rfl, hE2, hO2⟩
      refine ⟨_, rfl, ?_⟩
      refine RL.N1 ?_; (with_reducible repeat (first | refine QN.B1 ?_ | refine QN.N1 ?_ | refine WP.S1 ?_ | refine WP.B1 ?_ | refine WP.R1 ?_))
      refine RL.pure T_ok 3 rfl ?_
      refine RL.eqv (v' := .int .i64 ((i - j : Nat) : Int)) (congrArg _ (by rw [wrap_i64_in _ (by first | omega | (simp only; omega)) (by first | omega | (simp only; omega))]; first | omega | (simp only; omega))) ?_
      refine RL.A1 T_ok rfl ?_
      refine RL.N1 ?_
      (with_reducible repeat (first | refine QN.B1 ?_ | refine QN.N1 ?_))
      exact QN.round (i - j, j, swr l1 (md - i) md j) (Sub.C1 rfl (Sub.C1 rfl (Sub.C1 rfl (Sub.C1 rfl (Sub.C1 rfl Sub.nil))))) ⟨by show 1 ≤ i - j; omega, hj, by show i - j ≤ _; omega, hjb, hO2, hE.trans hE2 (fun k hk => .inl hk), hS.trans (Seg.swr (by omega) (by omega) (by omega) (by omega)), fun l' hh => hR l' (Rot.left (by omega) hlt (by omega) hh)⟩ (by show i - j + j < i + j; omega)
    · refine RL.eqv (v' := .bool false) (congrArg _ (decide_eq_false (by first | omega | (simp only; omega)))) ?_
      refine RL.N1 ?_; (with_reducible repeat (first | refine QN.B1 ?_ | refine QN.N1 ?_ | refine WP.S1 ?_ | refine WP.B1 ?_ | refine WP.R1 ?_))
      refine WP.condF rfl ?_
      (with_reducible repeat (first | refine WP.S1 ?_ | refine WP.B1 ?_ | refine WP.R1 ?_))
      refine RL.pure T_ok 4 rfl ?_
      refine RL.eqv (v' := .int .i64 ((md - i : Nat) : Int)) (congrArg _ (by rw [wrap_i64_in _ (by first | omega | (simp only; omega)) (by first | omega | (simp only; omega))]; first | omega | (simp only; omega))) ?_
      refine RL.pure T_ok 3 rfl ?_
      refine RL.eqv (v' := .int .i64 ((md + j : Nat) : Int)) (congrArg _ (by rw [wrap_i64_in _ (by first | omega | (simp only; omega)) (by first | omega | (simp only; omega))]; first | omega | (simp only; omega))) ?_
      refine RL.pure T_ok 2 rfl ?_
      refine RL.eqv (v' := .int .i64 ((md + j - i : Nat) : Int)) (congrArg _ (by rw [wrap_i64_in _ (by first | omega | (simp only; omega)) (by first | omega | (simp only; omega))]; first | omega | (simp only; omega))) ?_
      refine RL.A1 T_ok rfl ?_
      refine RL.call (fi := []) (ca := []) rfl rfl rfl rfl (swapR_c m1 S A n c l1 (md - i) (md + j - i) i f hO (by omega) (by omega) hn) ?_
      rintro _ m2 ⟨rfl, hE2, hO2⟩
      refine ⟨_, rfl, ?_⟩
      refine RL.N1 ?_; (with_reducible repeat (first | refine QN.B1 ?_ | refine QN.N1 ?_ | refine WP.S1 ?_ | refine WP.B1 ?_ | refine WP.R1 ?_))
      refine RL.pure T_ok 3 rfl ?_
      refine RL.eqv (v' := .int .i64 ((j - i : Nat) : Int)) (congrArg _ (by rw [wrap_i64_in _ (by first | omega | (simp only; omega)) (by first | omega | (simp only; omega))]; first | omega | (simp only; omega))) ?_
      refine RL.A1 T_ok rfl ?_
      refine RL.N1 ?_
      (with_reducible repeat (first | refine QN.B1 ?_ | refine QN.N1 ?_))
      exact QN.round (i, j - i, swr l1 (md - i) (md + j - i) i) (Sub.C1 rfl (Sub.C1 rfl (Sub.C1 rfl (Sub.C1 rfl (Sub.C1 rfl Sub.nil))))) ⟨hi, by show 1 ≤ j - i; omega, hia, by show j - i ≤ _; omega, hO2, hE.trans hE2 (fun k hk => .inl hk), hS.trans (Seg.swr (by omega) (by omega) (by omega) (by omega)), fun l' hh => hR l' (Rot.right (by omega) (by omega) (by omega) hh)⟩ (by show i + (j - i) < i + j; omega)
structure Cmp (P : Program) (S : List Nat) (g : FuncId) (cb : List Value) (cf : Clk → Clk → Int) (K : World → Prop) : Prop where
  run : ∀ W x y, K W → FnR P g (cV x :: cV y :: cb) W fun r m' => r = .int .i64 (cf x y) ∧ Ext W [] m'
  keep : ∀ W W', K W → Ext W S W' → K W'
theorem insert_c (m : World) (S : List Nat) (A : Option Addr) (n c : Nat) (l : List Clk) (a b : Nat) (g : FuncId) (cb : List Value) (cf : Clk → Clk → Int) (K : World → Prop) (hC : Cmp Tryd.prog S g cb cf K) (hK : K m) (hS : SWO (ltOf cf)) (h : CR m S A n c l) (h1 : a ≤ b) (h2 : b ≤ n) (hn : n < 1000000000) :
    FnR Tryd.prog 87 [.slice A n c, .int .i64 a, .int .i64 b, .func (.func g) #[] cb.toArray] m fun r m' => r = .tuple #[] ∧ Ext m S m' ∧ ∃ l', CR m' S A n c l' ∧ Seg a b l l' ∧ Up (ltOf cf) l' a b := by
  refine FnE.enter ⟨_, Tryd.func87, by kernel_rfl, by kernel_rfl⟩ Tryd.func87 rfl rfl ?_
  (with_reducible repeat (first | refine WP.S1 ?_ | refine WP.B1 ?_ | refine WP.R1 ?_))
  refine RL.pure T_ok 2 rfl ?_
  refine RL.eqv (v' := .int .i64 ((a + 1 : Nat) : Int)) (congrArg _ (by rw [wrap_i64_in _ (by omega) (by omega)]; rfl)) ?_
  refine RL.A1 T_ok rfl ?_
  refine RL.N1 ?_; (with_reducible repeat (first | refine QN.B1 ?_ | refine QN.N1 ?_ | refine WP.S1 ?_ | refine WP.B1 ?_ | refine WP.R1 ?_))
  refine (WP.loop (X := Nat × List Clk) (fun q => [(0, .slice A n c), (1, .int .i64 a), (2, .int .i64 b), (3, .func (.func g) #[] cb.toArray), (8, .int .i64 q.1)])
    (fun q m' => a + 1 ≤ q.1 ∧ CR m' S A n c q.2 ∧ Ext m S m' ∧ Seg a b l q.2 ∧ Up (ltOf cf) q.2 a (min q.1 b)) (fun q => b - q.1) (a + 1, l)
    (Sub.C1 rfl (Sub.C1 rfl (Sub.C1 rfl (Sub.C1 rfl (Sub.C1 rfl Sub.nil))))) ⟨Nat.le_refl _, h, Ext.refl _ _, Seg.refl _ _ _, Up.one _ _ (by show min (a + 1) b ≤ a + 1; omega)⟩ ?_)
  rintro ⟨i, l1⟩ m1 ⟨hi, hO, hE, hSg, hU⟩
  simp only at hi hO hSg hU
  (with_reducible repeat (first | refine WP.S1 ?_ | refine WP.B1 ?_ | refine WP.R1 ?_))
  refine RL.A1 T_ok rfl ?_
  refine RL.N1 ?_; (with_reducible repeat (first | refine QN.B1 ?_ | refine QN.N1 ?_ | refine WP.S1 ?_ | refine WP.B1 ?_ | refine WP.R1 ?_))
  refine WP.cond rfl (fun hc => ?_) (fun hc => ?_)
  · replace hc : i < b := by have := of_decide_eq_true hc; simp only at this; omega
    rw [Nat.min_eq_left (by omega)] at hU
    refine WP.skip ?_; (with_reducible repeat (first | refine QN.B1 ?_ | refine QN.N1 ?_ | refine WP.S1 ?_ | refine WP.B1 ?_ | refine WP.R1 ?_))
    refine RL.A1 T_ok rfl ?_
    refine RL.N1 ?_; (with_reducible repeat (first | refine QN.B1 ?_ | refine QN.N1 ?_ | refine WP.S1 ?_ | refine WP.B1 ?_ | refine WP.R1 ?_))
    refine (WP.loop (X := Nat × List Clk) (fun q => [(0, .slice A n c), (1, .int .i64 a), (2, .int .i64 b), (3, .func (.func g) #[] cb.toArray), (8, .int .i64 i), (9, .int .i64 q.1)])
      (fun q m' => a ≤ q.1 ∧ q.1 ≤ i ∧ CR m' S A n c q.2 ∧ Ext m S m' ∧ Seg a b l q.2 ∧ Ins (ltOf cf) q.2 a q.1 (i + 1)) (fun q => q.1) (i, l1)
      (Sub.C1 rfl (Sub.C1 rfl (Sub.C1 rfl (Sub.C1 rfl (Sub.C1 rfl (Sub.C1 rfl Sub.nil)))))) ⟨by show a ≤ i; omega, Nat.le_refl _, hO, hE, hSg, Ins.start hU⟩ ?_)
    clear hO hE hSg hU
    clear m1
    rintro ⟨j, l2⟩ m1 ⟨hja, hji, hO, hE, hSg, hI⟩
    simp only at hja hji hO hSg hI
    have hlen := hO.len
    refine WP.S1 ?_
    refine WP.cut (X := Bool) (fun q => [(0, .slice A n c), (1, .int .i64 a), (2, .int .i64 b), (3, .func (.func g) #[] cb.toArray), (8, .int .i64 i), (9, .int .i64 j), (34, .bool q)])
      (fun q m' => Ext m1 [] m' ∧ (q = true → ∃ k x y, j = k + 1 ∧ a ≤ k ∧ l2[k]? = some x ∧ l2[k + 1]? = some y ∧ ltOf cf y x = true) ∧ (q = false → j = a ∨ ∃ k x y, j = k + 1 ∧ a ≤ k ∧ l2[k]? = some x ∧ l2[k + 1]? = some y ∧ ltOf cf y x = false)) ?_ ?_
    · by_cases hj0 : a < j
      rotate_left
      · refine WP.drawQ (fun m' => m' = m1) [] (by kernel_rfl) rfl (by with_reducible repeat (first | exact PanicOk.body | refine PanicOk.then_ ?_ | refine PanicOk.block_ ?_)) (fun hQ => ?_)
        refine RH.pure T_ok hQ [0, 1, 2] (by kernel_rfl) rfl ?_
        refine RH.eqv (v' := .bool false) (congrArg _ (decide_eq_false (by omega))) ?_
        refine RH.pure T_ok hQ [3, 4, 5, 6, 7, 8, 9, 10, 11, 12, 13, 14, 15, 16] (by kernel_rfl) rfl ?_
        refine RH.done (by kernel_rfl) (fun _ => ?_)
        exact QN.cutEnd false (Sub.C1 rfl (Sub.C1 rfl (Sub.C1 rfl (Sub.C1 rfl (Sub.C1 rfl (Sub.C1 rfl (Sub.C1 rfl Sub.nil))))))) ⟨Ext.refl _ _, (fun hh => by cases hh), fun _ => .inl (by omega)⟩
      obtain ⟨k, rfl⟩ : ∃ k, j = k + 1 := ⟨j - 1, by omega⟩
      have hR0 : Cs m1 [] (.slice A n c) l2 := hO.sl (by simp)
      obtain ⟨ad, rfl, _⟩ := hR0.cell k (by omega)
      refine WP.drawQ (fun m' => Ext m1 [] m') [] (by kernel_rfl) (Ext.refl _ _) (by with_reducible repeat (first | exact PanicOk.body | refine PanicOk.then_ ?_ | refine PanicOk.block_ ?_)) (fun hQ => ?_)
      refine RH.pure T_ok hQ [0, 1, 2] (by kernel_rfl) rfl ?_
      refine RH.eqv (v' := .bool true) (congrArg _ (decide_eq_true (by omega))) ?_
      refine RH.pure T_ok hQ [3, 4, 5, 6] (by kernel_rfl) rfl ?_
      refine RH.indexAddr T_ok hQ 7 (k := k + 1) rfl (by kernel_rfl) rfl rfl rfl rfl rfl rfl rfl (by omega) rfl ?_
      refine RH.loadAgg T_ok hQ 8 (cC l2[k + 1]) (fun m' hm' => cS_at (hR0.ext0 hm') (k + 1) (by omega)) rfl (by kernel_rfl) rfl rfl rfl rfl ?_
      refine RH.pure T_ok hQ [9, 10, 11] (by kernel_rfl) rfl ?_
      refine RH.eqv (v' := .int .i64 ((k : Nat) : Int)) (congrArg _ (by rw [wrap_i64_in _ (by omega) (by omega)]; omega)) ?_
      refine RH.indexAddr T_ok hQ 12 (k := k) rfl (by kernel_rfl) rfl rfl rfl rfl rfl rfl rfl (by omega) rfl ?_
      refine RH.loadAgg T_ok hQ 13 (cC l2[k]) (fun m' hm' => cS_at (hR0.ext0 hm') k (by omega)) rfl (by kernel_rfl) rfl rfl rfl rfl ?_
      refine RH.only 14 rfl (by kernel_rfl) (fun _ => ?_)
      refine RL.call (fi := []) (ca := cb) rfl rfl rfl rfl (hC.run m1 l2[k + 1] l2[k] (hC.keep _ _ hK hE)) ?_
      rintro _ m2 ⟨rfl, hE2⟩
      refine ⟨_, rfl, RL.N1 (RH.cont hE2 ?_)⟩
      refine RH.pure T_ok hQ [15] (by kernel_rfl) rfl ?_
      refine RH.eqv (v' := .bool (ltOf cf l2[k + 1] l2[k])) rfl ?_
      refine RH.pure T_ok hQ [16] (by kernel_rfl) rfl ?_
      refine RH.done (by kernel_rfl) (fun _ => ?_)
      have e1 : l2[k]? = some l2[k] := List.getElem?_eq_getElem _
      have e2 : l2[k + 1]? = some l2[k + 1] := List.getElem?_eq_getElem _
      exact QN.cutEnd (ltOf cf l2[k + 1] l2[k]) (Sub.C1 rfl (Sub.C1 rfl (Sub.C1 rfl (Sub.C1 rfl (Sub.C1 rfl (Sub.C1 rfl (Sub.C1 rfl Sub.nil))))))) ⟨hE2, (fun hh => ⟨k, _, _, rfl, by omega, e1, e2, hh⟩), fun hh => .inr ⟨k, _, _, rfl, by omega, e1, e2, hh⟩⟩
    rintro q m2 ⟨hE2, hqt, hqf⟩
    replace hO : CR m2 S A n c l2 := hO.ext hE2 (by simp)
    replace hE := hE.trans hE2 (by simp)
    clear hE2
    refine WP.cond rfl (fun hq => ?_) (fun hq => ?_)
    · obtain ⟨k, x, y, rfl, hak, hx, hy, hlt⟩ := hqt hq
      refine WP.skip ?_; (with_reducible repeat (first | refine QN.B1 ?_ | refine QN.N1 ?_))
      refine WP.S1 ?_
      refine WP.B1 ?_
      obtain ⟨g0, cap0, cur0, hv8, hB8, rfl, hj8, hset⟩ := hO.putK (j := (k + 1) * 2) (k := 2) (by omega) (by omega)
      injection hv8 with hv8 hv8b hv8c
      subst hv8
      have hR : Cs m2 [] (.slice (some ⟨g0, 0, none⟩) n c) l2 := hO.sl (by simp)
      refine WP.drawQ (fun m' => m' = m2) [2, 3, 4, 10, 11, 15, 16, 17] (by kernel_rfl) rfl (by with_reducible repeat (first | exact PanicOk.body | refine PanicOk.then_ ?_ | refine PanicOk.block_ ?_)) (fun hQ => ?_)
      refine RH.pureF T_ok hQ [2, 3, 4] (by kernel_rfl) rfl ?_
      refine RH.eqv (v' := .int .i64 ((k : Nat) : Int)) (congrArg _ (by rw [wrap_i64_in _ (by omega) (by omega)]; omega)) ?_
      refine RH.pureF T_ok hQ [10, 11] (by kernel_rfl) rfl ?_
      refine RH.pure T_ok hQ [0, 1, 5, 6, 7] (by kernel_rfl) rfl ?_
      refine RH.eqv (v' := .int .i64 ((k : Nat) : Int)) (congrArg _ (by rw [wrap_i64_in _ (by omega) (by omega)]; omega)) ?_
      refine RH.indexAddr T_ok hQ 8 (k := k) rfl (by kernel_rfl) rfl rfl rfl rfl rfl rfl rfl (by omega) rfl ?_
      refine RH.loadAgg T_ok hQ 9 (cC l2[k]) (fun m' hm' => by rw [hm']; exact cS_at hR (k) (by omega)) rfl (by kernel_rfl) rfl rfl rfl rfl ?_
      refine RH.indexAddr T_ok hQ 12 (k := k + 1) rfl (by kernel_rfl) rfl rfl rfl rfl rfl rfl rfl (by omega) rfl ?_
      refine RH.loadAgg T_ok hQ 13 (cC l2[k + 1]) (fun m' hm' => by rw [hm']; exact cS_at hR (k + 1) (by omega)) rfl (by kernel_rfl) rfl rfl rfl rfl ?_
      refine RH.indexAddr T_ok hQ 14 (k := k + 1) rfl (by kernel_rfl) rfl rfl rfl rfl rfl rfl rfl (by omega) rfl ?_
      refine RH.eqv (v' := .pointer (some ⟨g0, (k + 1) * 2, none⟩)) (congrArg (fun q => Value.pointer (some q)) (by rw [add_block, Nat.zero_add])) ?_
      refine RH.only 15 rfl (by kernel_rfl) (fun _ => ?_)
      refine RL.storeAgg T_ok (b := g0) (i := (k + 1) * 2) (vs := cC l2[k]) (cs := cur0) hB8 rfl rfl rfl rfl rfl hj8 (cC_one _) rfl ?_
      intro m8 hC8
      have hO8 := hset m8 _ rfl hC8
      rw [csC_set l2 (k + 1) _ (by omega)] at hO8
      refine RL.N1 (RF.cont (by kernel_rfl) ?_)
      refine RF.only 16 rfl (by kernel_rfl) ?_
      refine RL.indexAddr (k := k) T_ok rfl rfl rfl rfl rfl rfl rfl (by omega) rfl ?_
      refine RL.eqv (v' := .pointer (some ⟨g0, (k) * 2, none⟩)) (congrArg (fun q => Value.pointer (some q)) (by rw [add_block, Nat.zero_add])) ?_
      refine RL.N1 (RF.cont (by kernel_rfl) ?_)
      obtain ⟨g1, cap1, cur1, hv9, hB9, hS9, hj9, hset9⟩ := hO8.putK (j := (k) * 2) (k := 2) (by omega) (by omega)
      cases hv9
      refine RF.only 17 rfl (by kernel_rfl) ?_
      refine RL.storeAgg T_ok (b := g0) (i := (k) * 2) (vs := cC l2[k + 1]) (cs := cur1) hB9 rfl rfl rfl rfl rfl hj9 (cC_one _) rfl ?_
      intro m9 hC9
      have hO9 := hset9 m9 _ rfl hC9
      rw [csC_set _ (k) _ (by rw [List.length_set]; omega), ← sw_of (p := k + 1) (q := k) (by omega) (by omega)] at hO9
      have hE9 : Ext m2 [g0] m9 := hC8.ext.trans hC9.ext (fun k hk => .inl hk)
      refine RL.N1 (RF.cont (by kernel_rfl) ?_)
      refine RF.done (by kernel_rfl) ?_
      (with_reducible repeat (first | refine QN.B1 ?_ | refine QN.N1 ?_))
      (with_reducible repeat (first | refine WP.S1 ?_ | refine WP.B1 ?_ | refine WP.R1 ?_))
      refine RL.pure T_ok 2 rfl ?_
      refine RL.eqv (v' := .int .i64 ((k : Nat) : Int)) (congrArg _ (by rw [wrap_i64_in _ (by omega) (by omega)]; omega)) ?_
      refine RL.A1 T_ok rfl ?_
      exact RL.N1 (QN.round (k, sw l2 (k + 1) k) (Sub.C1 rfl (Sub.C1 rfl (Sub.C1 rfl (Sub.C1 rfl (Sub.C1 rfl (Sub.C1 rfl Sub.nil)))))) ⟨hak, by show k ≤ i; omega, hO9, hE.trans hE9 (fun k hk => .inl hk), hSg.trans (Seg.sw ⟨by omega, by omega⟩ ⟨by omega, by omega⟩ (by omega)), hI.step hS hak (by omega) (by omega) hx hy hlt⟩ (by show k < k + 1; omega))
    · have hU : Up (ltOf cf) l2 a (i + 1) := by
        rcases hqf hq with rfl | ⟨k, x, y, rfl, hak, hx, hy, hlt⟩
        · exact hI.done_low
        · exact hI.done hS hx hy hlt
      refine WP.exit ?_; (with_reducible repeat (first | refine QN.tx ?_ | refine QN.bx ?_ | refine QN.block_far rfl ?_ | refine QN.B1 ?_ | refine QN.N1 ?_)); (with_reducible repeat (first | refine WP.S1 ?_ | refine WP.B1 ?_ | refine WP.R1 ?_))
      refine RL.pure T_ok 2 rfl ?_
      refine RL.eqv (v' := .int .i64 ((i + 1 : Nat) : Int)) (congrArg _ (by rw [wrap_i64_in _ (by omega) (by omega)]; rfl)) ?_
      refine RL.A1 T_ok rfl ?_
      exact RL.N1 (QN.round (i + 1, l2) (Sub.C1 rfl (Sub.C1 rfl (Sub.C1 rfl (Sub.C1 rfl (Sub.C1 rfl Sub.nil))))) ⟨by show a + 1 ≤ i + 1; omega, hO, hE, hSg, by show Up (ltOf cf) l2 a (min (i + 1) b); rw [Nat.min_eq_left (by omega)]; exact hU⟩ (by show b - (i + 1) < b - i; omega))
  · replace hc : b ≤ i := by have := of_decide_eq_false hc; simp only at this; omega
    rw [Nat.min_eq_right hc] at hU
    refine WP.exit ?_
    (with_reducible repeat (first | refine QN.tx ?_ | refine QN.bx ?_ | refine QN.block_far rfl ?_ | refine QN.B1 ?_ | refine QN.N1 ?_))
    exact QN.end0 rfl ⟨_, rfl, rfl, hE, l1, hO, hSg, hU⟩
end Go.Proofs.YtmjpcaiehfimgaaDoor
end
section
namespace Go.Proofs.YtmjpcaiehfimgaaDoor
open Go.RowKit Go.Ev Go.Ids Go.Mrg Go.Sort
theorem half_v (x : Nat) : ((x : Nat) : Int).fdiv (2 ^ shAmt .u64 1) = ((x / 2 : Nat) : Int) := by
  have h : shAmt .u64 1 = 1 := by decide
  rw [h, fdiv_pow x 1]
def ltAt (cf : Clk → Clk → Int) (l : List Clk) (p q : Nat) : Bool := match l[p]?, l[q]? with
  | some x, some y => ltOf cf x y
  | _, _ => false
theorem ltAt_eq {cf : Clk → Clk → Int} {l : List Clk} {p q : Nat} (hp : p < l.length) (hq : q < l.length) : ltAt cf l p q = ltOf cf l[p] l[q] := by
  unfold ltAt
  rw [List.getElem?_eq_getElem hp, List.getElem?_eq_getElem hq]
theorem ltAt_get {cf : Clk → Clk → Int} {l : List Clk} {p q : Nat} {r : Bool} (hp : p < l.length) (hq : q < l.length) (h : ltAt cf l p q = r) : ∃ x y, l[p]? = some x ∧ l[q]? = some y ∧ ltOf cf x y = r :=
  ⟨_, _, List.getElem?_eq_getElem hp, List.getElem?_eq_getElem hq, by rw [← ltAt_eq hp hq]; exact h⟩
theorem rot_at {l l' : List Clk} {s md mid : Nat} (h1 : s ≤ md) (h2 : s ≤ mid) (h : Rot l l' md (md - s) (mid - s)) (k : Nat) :
    l'[k]? = if s ≤ k ∧ k < mid then l[k + (md - s)]? else if mid ≤ k ∧ k < mid + md - s then l[k - (mid - s)]? else l[k]? := by
  rw [h k]
  by_cases c1 : s ≤ k ∧ k < mid
  · rw [if_pos c1, if_pos (by omega)]
  · rw [if_neg c1, if_neg (by omega)]
    by_cases c2 : mid ≤ k ∧ k < mid + md - s
    · rw [if_pos c2, if_pos (by omega)]
    · rw [if_neg c2, if_neg (by omega)]
theorem rot_none {l : List Clk} {s md mid : Nat} (h1 : s ≤ md) (h2 : s ≤ mid) (h : s = md ∨ s = mid) (k : Nat) :
    l[k]? = if s ≤ k ∧ k < mid then l[k + (md - s)]? else if mid ≤ k ∧ k < mid + md - s then l[k - (mid - s)]? else l[k]? := by
  by_cases c1 : s ≤ k ∧ k < mid
  · rw [if_pos c1]; congr 1; omega
  · rw [if_neg c1]
    by_cases c2 : mid ≤ k ∧ k < mid + md - s
    · rw [if_pos c2]; congr 1; omega
    · rw [if_neg c2]
set_option maxHeartbeats 2000000 in
theorem merge_c (S : List Nat) (A : Option Addr) (n c : Nat) (g : FuncId) (cb : List Value) (cf : Clk → Clk → Int) (K : World → Prop) (hC : Cmp Tryd.prog S g cb cf K) (hS : SWO (ltOf cf)) (hn : n < 1000000000) :
    ∀ (d : Nat) (m : World) (l : List Clk) (a md b : Nat), b - a ≤ d → K m → CR m S A n c l → a < md → md < b → b ≤ n → Up (ltOf cf) l a md → Up (ltOf cf) l md b →
    FnR Tryd.prog 88 [.slice A n c, .int .i64 a, .int .i64 md, .int .i64 b, .func (.func g) #[] cb.toArray] m fun r m' => r = .tuple #[] ∧ Ext m S m' ∧ ∃ l', CR m' S A n c l' ∧ Seg a b l l' ∧ Up (ltOf cf) l' a b := by
  intro d
  induction d with
  | zero => intro m l a md b hd; omega
  | succ d ih =>
  intro m l a md b hd hK h ham hmb hbn hU1 hU2
  have hlen := h.len
  refine FnE.enter ⟨_, Tryd.func88, by kernel_rfl, by kernel_rfl⟩ Tryd.func88 rfl rfl ?_
  (with_reducible repeat (first | refine WP.S1 ?_ | refine WP.B1 ?_ | refine WP.R1 ?_))
  refine RL.pure T_ok 3 rfl ?_
  refine RL.eqv (v' := .int .i64 ((md - a : Nat) : Int)) (congrArg _ (by rw [wrap_i64_in _ (by omega) (by omega)]; omega)) ?_
  refine RL.pure T_ok 1 rfl ?_
  by_cases c1 : md = a + 1
  · refine RL.eqv (v' := .bool true) (congrArg _ (by rw [beq_iff_eq]; omega)) ?_
    subst c1
    refine RL.N1 ?_; (with_reducible repeat (first | refine QN.B1 ?_ | refine QN.N1 ?_ | refine WP.S1 ?_ | refine WP.B1 ?_ | refine WP.R1 ?_))
    refine WP.condT rfl ?_
    (with_reducible repeat (first | refine WP.S1 ?_ | refine WP.B1 ?_ | refine WP.R1 ?_))
    refine RL.A1 T_ok rfl ?_
    refine RL.N1 ?_; (with_reducible repeat (first | refine QN.B1 ?_ | refine QN.N1 ?_ | refine WP.S1 ?_ | refine WP.B1 ?_ | refine WP.R1 ?_))
    refine RL.A1 T_ok rfl ?_
    refine RL.N1 ?_; (with_reducible repeat (first | refine QN.B1 ?_ | refine QN.N1 ?_))
    refine WP.cut (X := Nat) (fun i => [(0, .slice A n c), (1, .int .i64 a), (2, .int .i64 ((a + 1 : Nat) : Int)), (3, .int .i64 b), (4, .func (.func g) #[] cb.toArray), (10, .int .i64 i)]) (fun i m' => Srch (fun k => !ltAt cf l k a) (a + 1) b i i ∧ CR m' S A n c l ∧ Ext m S m') ?_ ?_
    · refine WP.B1 ?_
      refine (WP.loop (X := Nat × Nat) (fun q => [(0, .slice A n c), (1, .int .i64 a), (2, .int .i64 ((a + 1 : Nat) : Int)), (3, .int .i64 b), (4, .func (.func g) #[] cb.toArray), (10, .int .i64 q.1), (11, .int .i64 q.2)])
        (fun q m' => Srch (fun k => !ltAt cf l k a) (a + 1) b q.1 q.2 ∧ CR m' S A n c l ∧ Ext m S m') (fun q => q.2 - q.1) (a + 1, b)
        (Sub.C1 rfl (Sub.C1 rfl (Sub.C1 rfl (Sub.C1 rfl (Sub.C1 rfl (Sub.C1 rfl (Sub.C1 rfl Sub.nil))))))) ⟨Srch.start _ (by omega), h, Ext.refl _ _⟩ ?_)
      rintro ⟨i, j⟩ m1 ⟨hs, hO, hE⟩
      simp only at hs
      obtain ⟨le1, le2, le3⟩ := hs.le
      (with_reducible repeat (first | refine WP.S1 ?_ | refine WP.B1 ?_ | refine WP.R1 ?_))
      refine RL.A1 T_ok rfl ?_
      refine RL.N1 ?_; (with_reducible repeat (first | refine QN.B1 ?_ | refine QN.N1 ?_ | refine WP.S1 ?_ | refine WP.B1 ?_ | refine WP.R1 ?_))
      refine WP.cond rfl (fun hc => ?_) (fun hc => ?_)
      · replace hc : i < j := by have := of_decide_eq_true hc; simp only at this; omega
        refine WP.skip ?_; (with_reducible repeat (first | refine QN.B1 ?_ | refine QN.N1 ?_ | refine WP.S1 ?_ | refine WP.B1 ?_ | refine WP.R1 ?_))
        refine RL.pure T_ok 3 rfl ?_
        refine RL.eqv (v' := .int .i64 ((i + j : Nat) : Int)) (congrArg _ (by rw [wrap_i64_in _ (by omega) (by omega)]; omega)) ?_
        refine RL.pure T_ok 1 rfl ?_
        refine RL.eqv (v' := .int .u64 ((i + j : Nat) : Int)) (congrArg _ (by rw [wrap_u64_in _ (by omega) (by omega)])) ?_
        refine RL.pure T_ok 1 rfl ?_
        refine RL.eqv (v' := .int .u64 (((i + j) / 2 : Nat) : Int)) (congrArg _ (half_v _)) ?_
        refine RL.pure T_ok 1 rfl ?_
        refine RL.eqv (v' := .int .i64 (((i + j) / 2 : Nat) : Int)) (congrArg _ (by rw [wrap_i64_in _ (by omega) (by omega)])) ?_
        refine RL.A1 T_ok rfl ?_
        refine RL.N1 ?_; (with_reducible repeat (first | refine QN.B1 ?_ | refine QN.N1 ?_))
        have hh1 : i ≤ (i + j) / 2 := by omega
        have hh2 : (i + j) / 2 < j := by omega
        generalize (i + j) / 2 = hh at hh1 hh2
        (with_reducible repeat (first | refine WP.S1 ?_ | refine WP.B1 ?_ | refine WP.R1 ?_))
        have hR0 : Cs m1 [] (.slice A n c) l := hO.sl (by simp)
        obtain ⟨ad, rfl, _⟩ := hR0.cell (hh) (by omega)
        refine WP.drawQ (fun m' => Ext m1 [] m') [] (by kernel_rfl) (Ext.refl _ _) (by with_reducible repeat (first | exact PanicOk.body | refine PanicOk.then_ ?_ | refine PanicOk.block_ ?_)) (fun hQ => ?_)
        refine RH.pure T_ok hQ [0, 1, 2] (by kernel_rfl) rfl ?_
        refine RH.indexAddr T_ok hQ 3 (k := hh) rfl (by kernel_rfl) rfl rfl rfl rfl rfl rfl rfl (by omega) rfl ?_
        refine RH.loadAgg T_ok hQ 4 (cC l[hh]) (fun m' hm' => cS_at (hR0.ext0 hm') (hh) (by omega)) rfl (by kernel_rfl) rfl rfl rfl rfl ?_
        refine RH.pure T_ok hQ [5, 6] (by kernel_rfl) rfl ?_
        refine RH.indexAddr T_ok hQ 7 (k := a) rfl (by kernel_rfl) rfl rfl rfl rfl rfl rfl rfl (by omega) rfl ?_
        refine RH.loadAgg T_ok hQ 8 (cC l[a]) (fun m' hm' => cS_at (hR0.ext0 hm') (a) (by omega)) rfl (by kernel_rfl) rfl rfl rfl rfl ?_
        refine RH.only 9 rfl (by kernel_rfl) (fun _ => ?_)
        refine RL.call (fi := []) (ca := cb) rfl rfl rfl rfl (hC.run m1 l[hh] l[a] (hC.keep _ _ hK hE)) ?_
        rintro _ m2 ⟨rfl, hE2⟩
        refine ⟨_, rfl, RL.N1 (RH.cont hE2 ?_)⟩
        refine RH.pure T_ok hQ [10] (by kernel_rfl) rfl ?_
        refine RH.eqv (v' := .bool (ltOf cf l[hh] l[a])) rfl ?_
        refine RH.done (by kernel_rfl) (fun _ => ?_)
        (with_reducible repeat (first | refine QN.B1 ?_ | refine QN.N1 ?_))
        have hlt := ltAt_eq (cf := cf) (l := l) (p := hh) (q := a) (by omega) (by omega)
        replace hO : CR m2 S (some ad) n c l := hO.ext hE2 (by simp)
        replace hE := hE.trans hE2 (by simp)
        refine WP.cond rfl (fun hp => ?_) (fun hp => ?_)
        · (with_reducible repeat (first | refine WP.S1 ?_ | refine WP.B1 ?_ | refine WP.R1 ?_))
          refine RL.pure T_ok 2 rfl ?_
          refine RL.eqv (v' := .int .i64 ((hh + 1 : Nat) : Int)) (congrArg _ (by rw [wrap_i64_in _ (by omega) (by omega)]; rfl)) ?_
          refine RL.A1 T_ok rfl ?_
          refine RL.N1 ?_
          (with_reducible repeat (first | refine QN.B1 ?_ | refine QN.N1 ?_))
          exact QN.round (hh + 1, j) (Sub.C1 rfl (Sub.C1 rfl (Sub.C1 rfl (Sub.C1 rfl (Sub.C1 rfl (Sub.C1 rfl (Sub.C1 rfl Sub.nil))))))) ⟨hs.up hh1 hh2 (by rw [hlt, hp]; rfl), hO, hE⟩ (by show j - (hh + 1) < j - i; omega)
        · (with_reducible repeat (first | refine WP.S1 ?_ | refine WP.B1 ?_ | refine WP.R1 ?_))
          refine RL.A1 T_ok rfl ?_
          refine RL.N1 ?_
          (with_reducible repeat (first | refine QN.B1 ?_ | refine QN.N1 ?_))
          exact QN.round (i, hh) (Sub.C1 rfl (Sub.C1 rfl (Sub.C1 rfl (Sub.C1 rfl (Sub.C1 rfl (Sub.C1 rfl (Sub.C1 rfl Sub.nil))))))) ⟨hs.down hh1 hh2 (by rw [hlt, hp]; rfl), hO, hE⟩ (by show hh - i < j - i; omega)
      · replace hc : i = j := by have := of_decide_eq_false hc; simp only at this; omega
        subst hc
        refine WP.exit ?_
        (with_reducible repeat (first | refine QN.tx ?_ | refine QN.bx ?_ | refine QN.B1 ?_))
        exact QN.cutEnd i (Sub.C1 rfl (Sub.C1 rfl (Sub.C1 rfl (Sub.C1 rfl (Sub.C1 rfl (Sub.C1 rfl Sub.nil)))))) ⟨hs, hO, hE⟩
    rintro i mS ⟨hs, hOS, hES⟩
    obtain ⟨le1, _, le3⟩ := hs.le
    obtain ⟨x, hx⟩ := some_of (l := l) (i := a) (by omega)
    (with_reducible repeat (first | refine WP.S1 ?_ | refine WP.B1 ?_ | refine WP.R1 ?_))
    refine RL.A1 T_ok rfl ?_
    refine RL.N1 ?_; (with_reducible repeat (first | refine QN.B1 ?_ | refine QN.N1 ?_ | refine WP.S1 ?_ | refine WP.B1 ?_ | refine WP.R1 ?_))
    refine (WP.loop (X := Nat × List Clk) (fun q => [(0, .slice A n c), (1, .int .i64 a), (2, .int .i64 ((a + 1 : Nat) : Int)), (3, .int .i64 b), (4, .func (.func g) #[] cb.toArray), (10, .int .i64 i), (13, .int .i64 q.1)])
      (fun q m' => a ≤ q.1 ∧ q.1 ≤ i - 1 ∧ CR m' S A n c q.2 ∧ Ext m S m' ∧ Seg a b l q.2 ∧ MvU l a q.1 q.2) (fun q => i - q.1) (a, l)
      (Sub.C1 rfl (Sub.C1 rfl (Sub.C1 rfl (Sub.C1 rfl (Sub.C1 rfl (Sub.C1 rfl (Sub.C1 rfl Sub.nil))))))) ⟨Nat.le_refl _, by show a ≤ i - 1; omega, hOS, hES, Seg.refl _ _ _, MvU.start _ _⟩ ?_)
    rintro ⟨k, l1⟩ m1 ⟨hk1, hk2, hO, hE, hSg, hMv⟩
    simp only at hk1 hk2 hO hSg hMv
    have hlen1 := hO.len
    (with_reducible repeat (first | refine WP.S1 ?_ | refine WP.B1 ?_ | refine WP.R1 ?_))
    refine RL.pure T_ok 3 rfl ?_
    refine RL.eqv (v' := .int .i64 ((i - 1 : Nat) : Int)) (congrArg _ (by rw [wrap_i64_in _ (by omega) (by omega)]; omega)) ?_
    refine RL.A1 T_ok rfl ?_
    refine RL.N1 ?_; (with_reducible repeat (first | refine QN.B1 ?_ | refine QN.N1 ?_ | refine WP.S1 ?_ | refine WP.B1 ?_ | refine WP.R1 ?_))
    refine WP.cond rfl (fun hc => ?_) (fun hc => ?_)
    · replace hc : k < i - 1 := by have := of_decide_eq_true hc; simp only at this; omega
      refine WP.skip ?_; (with_reducible repeat (first | refine QN.B1 ?_ | refine QN.N1 ?_))
      refine WP.S1 ?_
      refine WP.B1 ?_
      obtain ⟨g0, cap0, cur0, hv8, hB8, rfl, hj8, hset⟩ := hO.putK (j := (k) * 2) (k := 2) (by omega) (by omega)
      injection hv8 with hv8 hv8b hv8c
      subst hv8
      have hR : Cs m1 [] (.slice (some ⟨g0, 0, none⟩) n c) l1 := hO.sl (by simp)
      refine WP.drawQ (fun m' => m' = m1) [2, 3, 4, 10, 11, 15, 16, 17] (by kernel_rfl) rfl (by with_reducible repeat (first | exact PanicOk.body | refine PanicOk.then_ ?_ | refine PanicOk.block_ ?_)) (fun hQ => ?_)
      refine RH.pureF T_ok hQ [2, 3, 4] (by kernel_rfl) rfl ?_
      refine RH.eqv (v' := .int .i64 ((k + 1 : Nat) : Int)) (congrArg _ (by rw [wrap_i64_in _ (by omega) (by omega)]; omega)) ?_
      refine RH.pureF T_ok hQ [10, 11] (by kernel_rfl) rfl ?_
      refine RH.pure T_ok hQ [0, 1, 5, 6, 7] (by kernel_rfl) rfl ?_
      refine RH.eqv (v' := .int .i64 ((k + 1 : Nat) : Int)) (congrArg _ (by rw [wrap_i64_in _ (by omega) (by omega)]; omega)) ?_
      refine RH.indexAddr T_ok hQ 8 (k := k + 1) rfl (by kernel_rfl) rfl rfl rfl rfl rfl rfl rfl (by omega) rfl ?_
      refine RH.loadAgg T_ok hQ 9 (cC l1[k + 1]) (fun m' hm' => by rw [hm']; exact cS_at hR (k + 1) (by omega)) rfl (by kernel_rfl) rfl rfl rfl rfl ?_
      refine RH.indexAddr T_ok hQ 12 (k := k) rfl (by kernel_rfl) rfl rfl rfl rfl rfl rfl rfl (by omega) rfl ?_
      refine RH.loadAgg T_ok hQ 13 (cC l1[k]) (fun m' hm' => by rw [hm']; exact cS_at hR (k) (by omega)) rfl (by kernel_rfl) rfl rfl rfl rfl ?_
      refine RH.indexAddr T_ok hQ 14 (k := k) rfl (by kernel_rfl) rfl rfl rfl rfl rfl rfl rfl (by omega) rfl ?_
      refine RH.eqv (v' := .pointer (some ⟨g0, (k) * 2, none⟩)) (congrArg (fun q => Value.pointer (some q)) (by rw [add_block, Nat.zero_add])) ?_
      refine RH.only 15 rfl (by kernel_rfl) (fun _ => ?_)
      refine RL.storeAgg T_ok (b := g0) (i := (k) * 2) (vs := cC l1[k + 1]) (cs := cur0) hB8 rfl rfl rfl rfl rfl hj8 (cC_one _) rfl ?_
      intro m8 hC8
      have hO8 := hset m8 _ rfl hC8
      rw [csC_set l1 (k) _ (by omega)] at hO8
      refine RL.N1 (RF.cont (by kernel_rfl) ?_)
      refine RF.only 16 rfl (by kernel_rfl) ?_
      refine RL.indexAddr (k := k + 1) T_ok rfl rfl rfl rfl rfl rfl rfl (by omega) rfl ?_
      refine RL.eqv (v' := .pointer (some ⟨g0, (k + 1) * 2, none⟩)) (congrArg (fun q => Value.pointer (some q)) (by rw [add_block, Nat.zero_add])) ?_
      refine RL.N1 (RF.cont (by kernel_rfl) ?_)
      obtain ⟨g1, cap1, cur1, hv9, hB9, hS9, hj9, hset9⟩ := hO8.putK (j := (k + 1) * 2) (k := 2) (by omega) (by omega)
      cases hv9
      refine RF.only 17 rfl (by kernel_rfl) ?_
      refine RL.storeAgg T_ok (b := g0) (i := (k + 1) * 2) (vs := cC l1[k]) (cs := cur1) hB9 rfl rfl rfl rfl rfl hj9 (cC_one _) rfl ?_
      intro m9 hC9
      have hO9 := hset9 m9 _ rfl hC9
      rw [csC_set _ (k + 1) _ (by rw [List.length_set]; omega), ← sw_of (p := k) (q := k + 1) (by omega) (by omega)] at hO9
      have hE9 : Ext m1 [g0] m9 := hC8.ext.trans hC9.ext (fun k hk => .inl hk)
      refine RL.N1 (RF.cont (by kernel_rfl) ?_)
      refine RF.done (by kernel_rfl) ?_
      (with_reducible repeat (first | refine QN.B1 ?_ | refine QN.N1 ?_))
      (with_reducible repeat (first | refine WP.S1 ?_ | refine WP.B1 ?_ | refine WP.R1 ?_))
      refine RL.pure T_ok 2 rfl ?_
      refine RL.eqv (v' := .int .i64 ((k + 1 : Nat) : Int)) (congrArg _ (by rw [wrap_i64_in _ (by omega) (by omega)]; rfl)) ?_
      refine RL.A1 T_ok rfl ?_
      exact RL.N1 (QN.round (k + 1, sw l1 k (k + 1)) (Sub.C1 rfl (Sub.C1 rfl (Sub.C1 rfl (Sub.C1 rfl (Sub.C1 rfl (Sub.C1 rfl (Sub.C1 rfl Sub.nil))))))) ⟨by show a ≤ k + 1; omega, by show k + 1 ≤ i - 1; omega, hO9, hE.trans hE9 (fun k hk => .inl hk), hSg.trans (Seg.sw ⟨by omega, by omega⟩ ⟨by omega, by omega⟩ (by omega)), hMv.step hk1 (by omega)⟩ (by show i - (k + 1) < i - k; omega))
    · replace hc : k = i - 1 := by have := of_decide_eq_false hc; simp only at this; omega
      subst hc
      refine WP.exit ?_; (with_reducible repeat (first | refine QN.tx ?_ | refine QN.bx ?_ | refine QN.block_far rfl ?_ | refine QN.B1 ?_ | refine QN.N1 ?_)); (with_reducible repeat (first | refine WP.S1 ?_ | refine WP.B1 ?_ | refine WP.R1 ?_))
      refine WP.ret ?_; (with_reducible repeat (first | refine QN.tr ?_ | refine QN.br ?_))
      refine QN.ret0 rfl ⟨_, rfl, rfl, hE, l1, hO, hSg, ins_up hS hx le1 le3 hU2 ?_ ?_ hMv⟩
      · rcases hs.low with h1 | h1
        · exact .inl h1
        · rw [Bool.not_eq_false'] at h1
          obtain ⟨y, x', hy, hx', hlt⟩ := ltAt_get (by omega) (by omega) h1
          rw [hx] at hx'; cases hx'
          exact .inr ⟨y, hy, hlt⟩
      · rcases hs.high with h1 | h1
        · exact .inl h1
        · by_cases hib : i = b
          · exact .inl hib
          · rw [Bool.not_eq_true'] at h1
            obtain ⟨y, x', hy, hx', hlt⟩ := ltAt_get (by omega) (by omega) h1
            rw [hx] at hx'; cases hx'
            exact .inr ⟨y, hy, hlt⟩
  refine RL.eqv (v' := .bool false) (congrArg _ (by rw [beq_eq_false_iff_ne]; omega)) ?_
  refine RL.N1 ?_; (with_reducible repeat (first | refine QN.B1 ?_ | refine QN.N1 ?_ | refine WP.S1 ?_ | refine WP.B1 ?_ | refine WP.R1 ?_))
  refine WP.condF rfl ?_
  refine WP.skip ?_; (with_reducible repeat (first | refine QN.B1 ?_ | refine QN.N1 ?_ | refine WP.S1 ?_ | refine WP.B1 ?_ | refine WP.R1 ?_))
  refine RL.pure T_ok 3 rfl ?_
  refine RL.eqv (v' := .int .i64 ((b - md : Nat) : Int)) (congrArg _ (by rw [wrap_i64_in _ (by omega) (by omega)]; omega)) ?_
  refine RL.pure T_ok 1 rfl ?_
  by_cases c2 : b = md + 1
  · refine RL.eqv (v' := .bool true) (congrArg _ (by rw [beq_iff_eq]; omega)) ?_
    subst c2
    refine RL.N1 ?_; (with_reducible repeat (first | refine QN.B1 ?_ | refine QN.N1 ?_ | refine WP.S1 ?_ | refine WP.B1 ?_ | refine WP.R1 ?_))
    refine WP.condT rfl ?_
    (with_reducible repeat (first | refine WP.S1 ?_ | refine WP.B1 ?_ | refine WP.R1 ?_))
    refine RL.A1 T_ok rfl ?_
    refine RL.N1 ?_; (with_reducible repeat (first | refine QN.B1 ?_ | refine QN.N1 ?_ | refine WP.S1 ?_ | refine WP.B1 ?_ | refine WP.R1 ?_))
    refine RL.A1 T_ok rfl ?_
    refine RL.N1 ?_; (with_reducible repeat (first | refine QN.B1 ?_ | refine QN.N1 ?_))
    refine WP.cut (X := Nat) (fun i => [(0, .slice A n c), (1, .int .i64 a), (2, .int .i64 md), (3, .int .i64 ((md + 1 : Nat) : Int)), (4, .func (.func g) #[] cb.toArray), (14, .int .i64 i)]) (fun i m' => Srch (fun k => ltAt cf l md k) a md i i ∧ CR m' S A n c l ∧ Ext m S m') ?_ ?_
    · refine WP.B1 ?_
      refine (WP.loop (X := Nat × Nat) (fun q => [(0, .slice A n c), (1, .int .i64 a), (2, .int .i64 md), (3, .int .i64 ((md + 1 : Nat) : Int)), (4, .func (.func g) #[] cb.toArray), (14, .int .i64 q.1), (15, .int .i64 q.2)])
        (fun q m' => Srch (fun k => ltAt cf l md k) a md q.1 q.2 ∧ CR m' S A n c l ∧ Ext m S m') (fun q => q.2 - q.1) (a, md)
        (Sub.C1 rfl (Sub.C1 rfl (Sub.C1 rfl (Sub.C1 rfl (Sub.C1 rfl (Sub.C1 rfl (Sub.C1 rfl Sub.nil))))))) ⟨Srch.start _ (by omega), h, Ext.refl _ _⟩ ?_)
      rintro ⟨i, j⟩ m1 ⟨hs, hO, hE⟩
      simp only at hs
      obtain ⟨le1, le2, le3⟩ := hs.le
      (with_reducible repeat (first | refine WP.S1 ?_ | refine WP.B1 ?_ | refine WP.R1 ?_))
      refine RL.A1 T_ok rfl ?_
      refine RL.N1 ?_; (with_reducible repeat (first | refine QN.B1 ?_ | refine QN.N1 ?_ | refine WP.S1 ?_ | refine WP.B1 ?_ | refine WP.R1 ?_))
      refine WP.cond rfl (fun hc => ?_) (fun hc => ?_)
      · replace hc : i < j := by have := of_decide_eq_true hc; simp only at this; omega
        refine WP.skip ?_; (with_reducible repeat (first | refine QN.B1 ?_ | refine QN.N1 ?_ | refine WP.S1 ?_ | refine WP.B1 ?_ | refine WP.R1 ?_))
        refine RL.pure T_ok 3 rfl ?_
        refine RL.eqv (v' := .int .i64 ((i + j : Nat) : Int)) (congrArg _ (by rw [wrap_i64_in _ (by omega) (by omega)]; omega)) ?_
        refine RL.pure T_ok 1 rfl ?_
        refine RL.eqv (v' := .int .u64 ((i + j : Nat) : Int)) (congrArg _ (by rw [wrap_u64_in _ (by omega) (by omega)])) ?_
        refine RL.pure T_ok 1 rfl ?_
        refine RL.eqv (v' := .int .u64 (((i + j) / 2 : Nat) : Int)) (congrArg _ (half_v _)) ?_
        refine RL.pure T_ok 1 rfl ?_
        refine RL.eqv (v' := .int .i64 (((i + j) / 2 : Nat) : Int)) (congrArg _ (by rw [wrap_i64_in _ (by omega) (by omega)])) ?_
        refine RL.A1 T_ok rfl ?_
        refine RL.N1 ?_; (with_reducible repeat (first | refine QN.B1 ?_ | refine QN.N1 ?_))
        have hh1 : i ≤ (i + j) / 2 := by omega
        have hh2 : (i + j) / 2 < j := by omega
        generalize (i + j) / 2 = hh at hh1 hh2
        (with_reducible repeat (first | refine WP.S1 ?_ | refine WP.B1 ?_ | refine WP.R1 ?_))
        have hR0 : Cs m1 [] (.slice A n c) l := hO.sl (by simp)
        obtain ⟨ad, rfl, _⟩ := hR0.cell (md) (by omega)
        refine WP.drawQ (fun m' => Ext m1 [] m') [] (by kernel_rfl) (Ext.refl _ _) (by with_reducible repeat (first | exact PanicOk.body | refine PanicOk.then_ ?_ | refine PanicOk.block_ ?_)) (fun hQ => ?_)
        refine RH.pure T_ok hQ [0, 1, 2] (by kernel_rfl) rfl ?_
        refine RH.indexAddr T_ok hQ 3 (k := md) rfl (by kernel_rfl) rfl rfl rfl rfl rfl rfl rfl (by omega) rfl ?_
        refine RH.loadAgg T_ok hQ 4 (cC l[md]) (fun m' hm' => cS_at (hR0.ext0 hm') (md) (by omega)) rfl (by kernel_rfl) rfl rfl rfl rfl ?_
        refine RH.pure T_ok hQ [5, 6] (by kernel_rfl) rfl ?_
        refine RH.indexAddr T_ok hQ 7 (k := hh) rfl (by kernel_rfl) rfl rfl rfl rfl rfl rfl rfl (by omega) rfl ?_
        refine RH.loadAgg T_ok hQ 8 (cC l[hh]) (fun m' hm' => cS_at (hR0.ext0 hm') (hh) (by omega)) rfl (by kernel_rfl) rfl rfl rfl rfl ?_
        refine RH.only 9 rfl (by kernel_rfl) (fun _ => ?_)
        refine RL.call (fi := []) (ca := cb) rfl rfl rfl rfl (hC.run m1 l[md] l[hh] (hC.keep _ _ hK hE)) ?_
        rintro _ m2 ⟨rfl, hE2⟩
        refine ⟨_, rfl, RL.N1 (RH.cont hE2 ?_)⟩
        refine RH.pure T_ok hQ [10] (by kernel_rfl) rfl ?_
        refine RH.eqv (v' := .bool (ltOf cf l[md] l[hh])) rfl ?_
        refine RH.pure T_ok hQ [11] (by kernel_rfl) rfl ?_
        refine RH.eqv (v' := .bool (!ltOf cf l[md] l[hh])) rfl ?_
        refine RH.done (by kernel_rfl) (fun _ => ?_)
        (with_reducible repeat (first | refine QN.B1 ?_ | refine QN.N1 ?_))
        have hlt := ltAt_eq (cf := cf) (l := l) (p := md) (q := hh) (by omega) (by omega)
        replace hO : CR m2 S (some ad) n c l := hO.ext hE2 (by simp)
        replace hE := hE.trans hE2 (by simp)
        refine WP.cond rfl (fun hp => ?_) (fun hp => ?_)
        · rw [Bool.not_eq_true'] at hp
          (with_reducible repeat (first | refine WP.S1 ?_ | refine WP.B1 ?_ | refine WP.R1 ?_))
          refine RL.pure T_ok 2 rfl ?_
          refine RL.eqv (v' := .int .i64 ((hh + 1 : Nat) : Int)) (congrArg _ (by rw [wrap_i64_in _ (by omega) (by omega)]; rfl)) ?_
          refine RL.A1 T_ok rfl ?_
          refine RL.N1 ?_
          (with_reducible repeat (first | refine QN.B1 ?_ | refine QN.N1 ?_))
          exact QN.round (hh + 1, j) (Sub.C1 rfl (Sub.C1 rfl (Sub.C1 rfl (Sub.C1 rfl (Sub.C1 rfl (Sub.C1 rfl (Sub.C1 rfl Sub.nil))))))) ⟨hs.up hh1 hh2 (by rw [hlt, hp]), hO, hE⟩ (by show j - (hh + 1) < j - i; omega)
        · rw [Bool.not_eq_false'] at hp
          (with_reducible repeat (first | refine WP.S1 ?_ | refine WP.B1 ?_ | refine WP.R1 ?_))
          refine RL.A1 T_ok rfl ?_
          refine RL.N1 ?_
          (with_reducible repeat (first | refine QN.B1 ?_ | refine QN.N1 ?_))
          exact QN.round (i, hh) (Sub.C1 rfl (Sub.C1 rfl (Sub.C1 rfl (Sub.C1 rfl (Sub.C1 rfl (Sub.C1 rfl (Sub.C1 rfl Sub.nil))))))) ⟨hs.down hh1 hh2 (by rw [hlt, hp]), hO, hE⟩ (by show hh - i < j - i; omega)
      · replace hc : i = j := by have := of_decide_eq_false hc; simp only at this; omega
        subst hc
        refine WP.exit ?_
        (with_reducible repeat (first | refine QN.tx ?_ | refine QN.bx ?_ | refine QN.B1 ?_))
        exact QN.cutEnd i (Sub.C1 rfl (Sub.C1 rfl (Sub.C1 rfl (Sub.C1 rfl (Sub.C1 rfl (Sub.C1 rfl Sub.nil)))))) ⟨hs, hO, hE⟩
    rintro i mS ⟨hs, hOS, hES⟩
    obtain ⟨le1, _, le3⟩ := hs.le
    obtain ⟨x, hx⟩ := some_of (l := l) (i := md) (by omega)
    (with_reducible repeat (first | refine WP.S1 ?_ | refine WP.B1 ?_ | refine WP.R1 ?_))
    refine RL.A1 T_ok rfl ?_
    refine RL.N1 ?_; (with_reducible repeat (first | refine QN.B1 ?_ | refine QN.N1 ?_ | refine WP.S1 ?_ | refine WP.B1 ?_ | refine WP.R1 ?_))
    refine (WP.loop (X := Nat × List Clk) (fun q => [(0, .slice A n c), (1, .int .i64 a), (2, .int .i64 md), (3, .int .i64 ((md + 1 : Nat) : Int)), (4, .func (.func g) #[] cb.toArray), (14, .int .i64 i), (17, .int .i64 q.1)])
      (fun q m' => i ≤ q.1 ∧ q.1 ≤ md ∧ CR m' S A n c q.2 ∧ Ext m S m' ∧ Seg a (md + 1) l q.2 ∧ MvD l md q.1 q.2) (fun q => q.1) (md, l)
      (Sub.C1 rfl (Sub.C1 rfl (Sub.C1 rfl (Sub.C1 rfl (Sub.C1 rfl (Sub.C1 rfl (Sub.C1 rfl Sub.nil))))))) ⟨le3, Nat.le_refl _, hOS, hES, Seg.refl _ _ _, MvD.start _ _⟩ ?_)
    rintro ⟨k0, l1⟩ m1 ⟨hk1, hk2, hO, hE, hSg, hMv⟩
    simp only at hk1 hk2 hO hSg hMv
    have hlen1 := hO.len
    (with_reducible repeat (first | refine WP.S1 ?_ | refine WP.B1 ?_ | refine WP.R1 ?_))
    refine RL.A1 T_ok rfl ?_
    refine RL.N1 ?_; (with_reducible repeat (first | refine QN.B1 ?_ | refine QN.N1 ?_ | refine WP.S1 ?_ | refine WP.B1 ?_ | refine WP.R1 ?_))
    refine WP.cond rfl (fun hc => ?_) (fun hc => ?_)
    · replace hc : i < k0 := by have := of_decide_eq_true hc; simp only at this; omega
      obtain ⟨k, rfl⟩ : ∃ k, k0 = k + 1 := ⟨k0 - 1, by omega⟩
      refine WP.skip ?_; (with_reducible repeat (first | refine QN.B1 ?_ | refine QN.N1 ?_))
      refine WP.S1 ?_
      refine WP.B1 ?_
      obtain ⟨g0, cap0, cur0, hv8, hB8, rfl, hj8, hset⟩ := hO.putK (j := (k + 1) * 2) (k := 2) (by omega) (by omega)
      injection hv8 with hv8 hv8b hv8c
      subst hv8
      have hR : Cs m1 [] (.slice (some ⟨g0, 0, none⟩) n c) l1 := hO.sl (by simp)
      refine WP.drawQ (fun m' => m' = m1) [2, 3, 4, 10, 11, 15, 16, 17] (by kernel_rfl) rfl (by with_reducible repeat (first | exact PanicOk.body | refine PanicOk.then_ ?_ | refine PanicOk.block_ ?_)) (fun hQ => ?_)
      refine RH.pureF T_ok hQ [2, 3, 4] (by kernel_rfl) rfl ?_
      refine RH.eqv (v' := .int .i64 ((k : Nat) : Int)) (congrArg _ (by rw [wrap_i64_in _ (by omega) (by omega)]; omega)) ?_
      refine RH.pureF T_ok hQ [10, 11] (by kernel_rfl) rfl ?_
      refine RH.pure T_ok hQ [0, 1, 5, 6, 7] (by kernel_rfl) rfl ?_
      refine RH.eqv (v' := .int .i64 ((k : Nat) : Int)) (congrArg _ (by rw [wrap_i64_in _ (by omega) (by omega)]; omega)) ?_
      refine RH.indexAddr T_ok hQ 8 (k := k) rfl (by kernel_rfl) rfl rfl rfl rfl rfl rfl rfl (by omega) rfl ?_
      refine RH.loadAgg T_ok hQ 9 (cC l1[k]) (fun m' hm' => by rw [hm']; exact cS_at hR (k) (by omega)) rfl (by kernel_rfl) rfl rfl rfl rfl ?_
      refine RH.indexAddr T_ok hQ 12 (k := k + 1) rfl (by kernel_rfl) rfl rfl rfl rfl rfl rfl rfl (by omega) rfl ?_
      refine RH.loadAgg T_ok hQ 13 (cC l1[k + 1]) (fun m' hm' => by rw [hm']; exact cS_at hR (k + 1) (by omega)) rfl (by kernel_rfl) rfl rfl rfl rfl ?_
      refine RH.indexAddr T_ok hQ 14 (k := k + 1) rfl (by kernel_rfl) rfl rfl rfl rfl rfl rfl rfl (by omega) rfl ?_
      refine RH.eqv (v' := .pointer (some ⟨g0, (k + 1) * 2, none⟩)) (congrArg (fun q => Value.pointer (some q)) (by rw [add_block, Nat.zero_add])) ?_
      refine RH.only 15 rfl (by kernel_rfl) (fun _ => ?_)
      refine RL.storeAgg T_ok (b := g0) (i := (k + 1) * 2) (vs := cC l1[k]) (cs := cur0) hB8 rfl rfl rfl rfl rfl hj8 (cC_one _) rfl ?_
      intro m8 hC8
      have hO8 := hset m8 _ rfl hC8
      rw [csC_set l1 (k + 1) _ (by omega)] at hO8
      refine RL.N1 (RF.cont (by kernel_rfl) ?_)
      refine RF.only 16 rfl (by kernel_rfl) ?_
      refine RL.indexAddr (k := k) T_ok rfl rfl rfl rfl rfl rfl rfl (by omega) rfl ?_
      refine RL.eqv (v' := .pointer (some ⟨g0, (k) * 2, none⟩)) (congrArg (fun q => Value.pointer (some q)) (by rw [add_block, Nat.zero_add])) ?_
      refine RL.N1 (RF.cont (by kernel_rfl) ?_)
      obtain ⟨g1, cap1, cur1, hv9, hB9, hS9, hj9, hset9⟩ := hO8.putK (j := (k) * 2) (k := 2) (by omega) (by omega)
      cases hv9
      refine RF.only 17 rfl (by kernel_rfl) ?_
      refine RL.storeAgg T_ok (b := g0) (i := (k) * 2) (vs := cC l1[k + 1]) (cs := cur1) hB9 rfl rfl rfl rfl rfl hj9 (cC_one _) rfl ?_
      intro m9 hC9
      have hO9 := hset9 m9 _ rfl hC9
      rw [csC_set _ (k) _ (by rw [List.length_set]; omega), ← sw_of (p := k + 1) (q := k) (by omega) (by omega)] at hO9
      have hE9 : Ext m1 [g0] m9 := hC8.ext.trans hC9.ext (fun k hk => .inl hk)
      refine RL.N1 (RF.cont (by kernel_rfl) ?_)
      refine RF.done (by kernel_rfl) ?_
      (with_reducible repeat (first | refine QN.B1 ?_ | refine QN.N1 ?_))
      (with_reducible repeat (first | refine WP.S1 ?_ | refine WP.B1 ?_ | refine WP.R1 ?_))
      refine RL.pure T_ok 2 rfl ?_
      refine RL.eqv (v' := .int .i64 ((k : Nat) : Int)) (congrArg _ (by rw [wrap_i64_in _ (by omega) (by omega)]; omega)) ?_
      refine RL.A1 T_ok rfl ?_
      exact RL.N1 (QN.round (k, sw l1 (k + 1) k) (Sub.C1 rfl (Sub.C1 rfl (Sub.C1 rfl (Sub.C1 rfl (Sub.C1 rfl (Sub.C1 rfl (Sub.C1 rfl Sub.nil))))))) ⟨by show i ≤ k; omega, by show k ≤ md; omega, hO9, hE.trans hE9 (fun k hk => .inl hk), hSg.trans (Seg.sw ⟨by omega, by omega⟩ ⟨by omega, by omega⟩ (by omega)), hMv.step (by omega) (by omega)⟩ (by show k < k + 1; omega))
    · replace hc : k0 = i := by have := of_decide_eq_false hc; simp only at this; omega
      subst hc
      refine WP.exit ?_; (with_reducible repeat (first | refine QN.tx ?_ | refine QN.bx ?_ | refine QN.block_far rfl ?_ | refine QN.B1 ?_ | refine QN.N1 ?_)); (with_reducible repeat (first | refine WP.S1 ?_ | refine WP.B1 ?_ | refine WP.R1 ?_))
      refine WP.ret ?_; (with_reducible repeat (first | refine QN.tr ?_ | refine QN.br ?_))
      refine QN.ret0 rfl ⟨_, rfl, rfl, hE, l1, hO, hSg, ins_down hS hx le1 le3 hU1 ?_ ?_ hMv⟩
      · rcases hs.low with h1 | h1
        · exact .inl h1
        · by_cases hia : k0 = a
          · exact .inl hia
          · obtain ⟨x', y, hx', hy, hlt⟩ := ltAt_get (by omega) (by omega) h1
            rw [hx] at hx'; cases hx'
            exact .inr ⟨y, hy, hlt⟩
      · rcases hs.high with h1 | h1
        · exact .inl h1
        · obtain ⟨x', y, hx', hy, hlt⟩ := ltAt_get (by omega) (by omega) h1
          rw [hx] at hx'; cases hx'
          exact .inr ⟨y, hy, hlt⟩
  refine RL.eqv (v' := .bool false) (congrArg _ (by rw [beq_eq_false_iff_ne]; omega)) ?_
  refine RL.N1 ?_; (with_reducible repeat (first | refine QN.B1 ?_ | refine QN.N1 ?_ | refine WP.S1 ?_ | refine WP.B1 ?_ | refine WP.R1 ?_))
  refine WP.condF rfl ?_
  refine WP.skip ?_; (with_reducible repeat (first | refine QN.B1 ?_ | refine QN.N1 ?_ | refine WP.S1 ?_ | refine WP.B1 ?_ | refine WP.R1 ?_))
  refine RL.pure T_ok 3 rfl ?_
  refine RL.eqv (v' := .int .i64 ((a + b : Nat) : Int)) (congrArg _ (by rw [wrap_i64_in _ (by omega) (by omega)]; omega)) ?_
  refine RL.pure T_ok 1 rfl ?_
  refine RL.eqv (v' := .int .u64 ((a + b : Nat) : Int)) (congrArg _ (by rw [wrap_u64_in _ (by omega) (by omega)])) ?_
  refine RL.pure T_ok 1 rfl ?_
  refine RL.eqv (v' := .int .u64 (((a + b) / 2 : Nat) : Int)) (congrArg _ (half_v _)) ?_
  refine RL.pure T_ok 1 rfl ?_
  refine RL.eqv (v' := .int .i64 (((a + b) / 2 : Nat) : Int)) (congrArg _ (by rw [wrap_i64_in _ (by omega) (by omega)])) ?_
  refine RL.A1 T_ok rfl ?_
  refine RL.N1 ?_; (with_reducible repeat (first | refine QN.B1 ?_ | refine QN.N1 ?_))
  obtain ⟨mid, hmid⟩ : ∃ mid, (a + b) / 2 = mid := ⟨_, rfl⟩
  rw [hmid]
  (with_reducible repeat (first | refine WP.S1 ?_ | refine WP.B1 ?_ | refine WP.R1 ?_))
  refine RL.pure T_ok 3 rfl ?_
  refine RL.eqv (v' := .int .i64 ((mid + md : Nat) : Int)) (congrArg _ (by rw [wrap_i64_in _ (by omega) (by omega)]; omega)) ?_
  refine RL.A1 T_ok rfl ?_
  refine RL.N1 ?_; (with_reducible repeat (first | refine QN.B1 ?_ | refine QN.N1 ?_ | refine WP.S1 ?_ | refine WP.B1 ?_ | refine WP.R1 ?_))
  refine RL.A1 T_ok rfl ?_
  refine RL.N1 ?_; (with_reducible repeat (first | refine QN.B1 ?_ | refine QN.N1 ?_))
  obtain ⟨lo, hlo⟩ : ∃ lo, lo = if mid < md then mid + md - b else a := ⟨_, rfl⟩
  obtain ⟨hi, hhi⟩ : ∃ hi, hi = if mid < md then mid else md := ⟨_, rfl⟩
  have hlo1 : a ≤ lo ∧ mid + md ≤ lo + b := by subst hlo; split <;> omega
  have hhi1 : hi ≤ md ∧ hi ≤ mid ∧ lo ≤ hi := by subst hhi; subst hlo; split <;> omega
  refine WP.cut (X := Unit) (fun _ => [(0, .slice A n c), (1, .int .i64 a), (2, .int .i64 md), (3, .int .i64 b), (4, .func (.func g) #[] cb.toArray), (18, .int .i64 mid), (19, .int .i64 ((mid + md : Nat) : Int)), (20, .int .i64 lo), (21, .int .i64 hi)]) (fun _ m' => m' = m) ?_ ?_
  · (with_reducible repeat (first | refine WP.S1 ?_ | refine WP.B1 ?_ | refine WP.R1 ?_))
    refine RL.pure T_ok 3 rfl ?_
    by_cases hm : mid < md
    · rw [if_pos hm] at hlo hhi
      replace hlo := hlo.symm
      replace hhi := hhi.symm
      subst hlo; subst hhi
      refine RL.eqv (v' := .bool true) (congrArg _ (decide_eq_true (by omega))) ?_
      refine RL.N1 ?_; (with_reducible repeat (first | refine QN.B1 ?_ | refine QN.N1 ?_ | refine WP.S1 ?_ | refine WP.B1 ?_ | refine WP.R1 ?_))
      refine WP.condT rfl ?_
      (with_reducible repeat (first | refine WP.S1 ?_ | refine WP.B1 ?_ | refine WP.R1 ?_))
      refine RL.pure T_ok 3 rfl ?_
      refine RL.eqv (v' := .int .i64 ((mid + md - b : Nat) : Int)) (congrArg _ (by rw [wrap_i64_in _ (by omega) (by omega)]; omega)) ?_
      refine RL.A1 T_ok rfl ?_
      refine RL.N1 ?_; (with_reducible repeat (first | refine QN.B1 ?_ | refine QN.N1 ?_ | refine WP.S1 ?_ | refine WP.B1 ?_ | refine WP.R1 ?_))
      refine RL.A1 T_ok rfl ?_
      exact RL.N1 (QN.cutEnd () (Sub.C1 rfl (Sub.C1 rfl (Sub.C1 rfl (Sub.C1 rfl (Sub.C1 rfl (Sub.C1 rfl (Sub.C1 rfl (Sub.C1 rfl (Sub.C1 rfl Sub.nil))))))))) rfl)
    · rw [if_neg hm] at hlo hhi
      replace hlo := hlo.symm
      replace hhi := hhi.symm
      subst hlo; subst hhi
      refine RL.eqv (v' := .bool false) (congrArg _ (decide_eq_false (by omega))) ?_
      refine RL.N1 ?_; (with_reducible repeat (first | refine QN.B1 ?_ | refine QN.N1 ?_ | refine WP.S1 ?_ | refine WP.B1 ?_ | refine WP.R1 ?_))
      refine WP.condF rfl ?_
      (with_reducible repeat (first | refine WP.S1 ?_ | refine WP.B1 ?_ | refine WP.R1 ?_))
      refine RL.A1 T_ok rfl ?_
      refine RL.N1 ?_; (with_reducible repeat (first | refine QN.B1 ?_ | refine QN.N1 ?_ | refine WP.S1 ?_ | refine WP.B1 ?_ | refine WP.R1 ?_))
      refine RL.A1 T_ok rfl ?_
      exact RL.N1 (QN.cutEnd () (Sub.C1 rfl (Sub.C1 rfl (Sub.C1 rfl (Sub.C1 rfl (Sub.C1 rfl (Sub.C1 rfl (Sub.C1 rfl (Sub.C1 rfl (Sub.C1 rfl Sub.nil))))))))) rfl)
  rintro _ mc rfl
  (with_reducible repeat (first | refine WP.S1 ?_ | refine WP.B1 ?_ | refine WP.R1 ?_))
  refine RL.pure T_ok 2 rfl ?_
  refine RL.eqv (v' := .int .i64 ((mid + md - 1 : Nat) : Int)) (congrArg _ (by rw [wrap_i64_in _ (by omega) (by omega)]; omega)) ?_
  refine RL.A1 T_ok rfl ?_
  refine RL.N1 ?_; (with_reducible repeat (first | refine QN.B1 ?_ | refine QN.N1 ?_))
  refine WP.cut (X := Nat) (fun s => [(0, .slice A n c), (1, .int .i64 a), (2, .int .i64 md), (3, .int .i64 b), (4, .func (.func g) #[] cb.toArray), (18, .int .i64 mid), (19, .int .i64 ((mid + md : Nat) : Int)), (20, .int .i64 s)]) (fun s m' => Srch (fun k => ltAt cf l (mid + md - 1 - k) k) lo hi s s ∧ CR m' S A n c l ∧ Ext mc S m') ?_ ?_
  · refine WP.B1 ?_
    refine (WP.loop (X := Nat × Nat) (fun q => [(0, .slice A n c), (1, .int .i64 a), (2, .int .i64 md), (3, .int .i64 b), (4, .func (.func g) #[] cb.toArray), (18, .int .i64 mid), (19, .int .i64 ((mid + md : Nat) : Int)), (20, .int .i64 q.1), (21, .int .i64 q.2), (22, .int .i64 ((mid + md - 1 : Nat) : Int))])
      (fun q m' => Srch (fun k => ltAt cf l (mid + md - 1 - k) k) lo hi q.1 q.2 ∧ CR m' S A n c l ∧ Ext mc S m') (fun q => q.2 - q.1) (lo, hi)
      (Sub.C1 rfl (Sub.C1 rfl (Sub.C1 rfl (Sub.C1 rfl (Sub.C1 rfl (Sub.C1 rfl (Sub.C1 rfl (Sub.C1 rfl (Sub.C1 rfl (Sub.C1 rfl Sub.nil)))))))))) ⟨Srch.start _ hhi1.2.2, h, Ext.refl _ _⟩ ?_)
    rintro ⟨i, j⟩ m1 ⟨hs, hO, hE⟩
    simp only at hs
    obtain ⟨le1, le2, le3⟩ := hs.le
    (with_reducible repeat (first | refine WP.S1 ?_ | refine WP.B1 ?_ | refine WP.R1 ?_))
    refine RL.A1 T_ok rfl ?_
    refine RL.N1 ?_; (with_reducible repeat (first | refine QN.B1 ?_ | refine QN.N1 ?_ | refine WP.S1 ?_ | refine WP.B1 ?_ | refine WP.R1 ?_))
    refine WP.cond rfl (fun hc => ?_) (fun hc => ?_)
    · replace hc : i < j := by have := of_decide_eq_true hc; simp only at this; omega
      refine WP.skip ?_; (with_reducible repeat (first | refine QN.B1 ?_ | refine QN.N1 ?_ | refine WP.S1 ?_ | refine WP.B1 ?_ | refine WP.R1 ?_))
      refine RL.pure T_ok 3 rfl ?_
      refine RL.eqv (v' := .int .i64 ((i + j : Nat) : Int)) (congrArg _ (by rw [wrap_i64_in _ (by omega) (by omega)]; omega)) ?_
      refine RL.pure T_ok 1 rfl ?_
      refine RL.eqv (v' := .int .u64 ((i + j : Nat) : Int)) (congrArg _ (by rw [wrap_u64_in _ (by omega) (by omega)])) ?_
      refine RL.pure T_ok 1 rfl ?_
      refine RL.eqv (v' := .int .u64 (((i + j) / 2 : Nat) : Int)) (congrArg _ (half_v _)) ?_
      refine RL.pure T_ok 1 rfl ?_
      refine RL.eqv (v' := .int .i64 (((i + j) / 2 : Nat) : Int)) (congrArg _ (by rw [wrap_i64_in _ (by omega) (by omega)])) ?_
      refine RL.A1 T_ok rfl ?_
      refine RL.N1 ?_; (with_reducible repeat (first | refine QN.B1 ?_ | refine QN.N1 ?_))
      have hh1 : i ≤ (i + j) / 2 := by omega
      have hh2 : (i + j) / 2 < j := by omega
      generalize (i + j) / 2 = hh at hh1 hh2
      (with_reducible repeat (first | refine WP.S1 ?_ | refine WP.B1 ?_ | refine WP.R1 ?_))
      have hR0 : Cs m1 [] (.slice A n c) l := hO.sl (by simp)
      obtain ⟨ad, rfl, _⟩ := hR0.cell (mid + md - 1 - hh) (by omega)
      refine WP.drawQ (fun m' => Ext m1 [] m') [] (by kernel_rfl) (Ext.refl _ _) (by with_reducible repeat (first | exact PanicOk.body | refine PanicOk.then_ ?_ | refine PanicOk.block_ ?_)) (fun hQ => ?_)
      refine RH.pure T_ok hQ [0, 1, 2, 3, 4] (by kernel_rfl) rfl ?_
      refine RH.eqv (v' := .int .i64 ((mid + md - 1 - hh : Nat) : Int)) (congrArg _ (by rw [wrap_i64_in _ (by omega) (by omega)]; omega)) ?_
      refine RH.indexAddr T_ok hQ 5 (k := mid + md - 1 - hh) rfl (by kernel_rfl) rfl rfl rfl rfl rfl rfl rfl (by omega) rfl ?_
      refine RH.loadAgg T_ok hQ 6 (cC l[mid + md - 1 - hh]) (fun m' hm' => cS_at (hR0.ext0 hm') (mid + md - 1 - hh) (by omega)) rfl (by kernel_rfl) rfl rfl rfl rfl ?_
      refine RH.pure T_ok hQ [7, 8] (by kernel_rfl) rfl ?_
      refine RH.indexAddr T_ok hQ 9 (k := hh) rfl (by kernel_rfl) rfl rfl rfl rfl rfl rfl rfl (by omega) rfl ?_
      refine RH.loadAgg T_ok hQ 10 (cC l[hh]) (fun m' hm' => cS_at (hR0.ext0 hm') (hh) (by omega)) rfl (by kernel_rfl) rfl rfl rfl rfl ?_
      refine RH.only 11 rfl (by kernel_rfl) (fun _ => ?_)
      refine RL.call (fi := []) (ca := cb) rfl rfl rfl rfl (hC.run m1 l[mid + md - 1 - hh] l[hh] (hC.keep _ _ hK hE)) ?_
      rintro _ m2 ⟨rfl, hE2⟩
      refine ⟨_, rfl, RL.N1 (RH.cont hE2 ?_)⟩
      refine RH.pure T_ok hQ [12] (by kernel_rfl) rfl ?_
      refine RH.eqv (v' := .bool (ltOf cf l[mid + md - 1 - hh] l[hh])) rfl ?_
      refine RH.pure T_ok hQ [13] (by kernel_rfl) rfl ?_
      refine RH.eqv (v' := .bool (!ltOf cf l[mid + md - 1 - hh] l[hh])) rfl ?_
      refine RH.done (by kernel_rfl) (fun _ => ?_)
      (with_reducible repeat (first | refine QN.B1 ?_ | refine QN.N1 ?_))
      have hlt := ltAt_eq (cf := cf) (l := l) (p := mid + md - 1 - hh) (q := hh) (by omega) (by omega)
      replace hO : CR m2 S (some ad) n c l := hO.ext hE2 (by simp)
      replace hE := hE.trans hE2 (by simp)
      refine WP.cond rfl (fun hp => ?_) (fun hp => ?_)
      · rw [Bool.not_eq_true'] at hp
        (with_reducible repeat (first | refine WP.S1 ?_ | refine WP.B1 ?_ | refine WP.R1 ?_))
        refine RL.pure T_ok 2 rfl ?_
        refine RL.eqv (v' := .int .i64 ((hh + 1 : Nat) : Int)) (congrArg _ (by rw [wrap_i64_in _ (by omega) (by omega)]; rfl)) ?_
        refine RL.A1 T_ok rfl ?_
        refine RL.N1 ?_
        (with_reducible repeat (first | refine QN.B1 ?_ | refine QN.N1 ?_))
        exact QN.round (hh + 1, j) (Sub.C1 rfl (Sub.C1 rfl (Sub.C1 rfl (Sub.C1 rfl (Sub.C1 rfl (Sub.C1 rfl (Sub.C1 rfl (Sub.C1 rfl (Sub.C1 rfl (Sub.C1 rfl Sub.nil)))))))))) ⟨hs.up hh1 hh2 (by rw [hlt, hp]), hO, hE⟩ (by show j - (hh + 1) < j - i; omega)
      · rw [Bool.not_eq_false'] at hp
        (with_reducible repeat (first | refine WP.S1 ?_ | refine WP.B1 ?_ | refine WP.R1 ?_))
        refine RL.A1 T_ok rfl ?_
        refine RL.N1 ?_
        (with_reducible repeat (first | refine QN.B1 ?_ | refine QN.N1 ?_))
        exact QN.round (i, hh) (Sub.C1 rfl (Sub.C1 rfl (Sub.C1 rfl (Sub.C1 rfl (Sub.C1 rfl (Sub.C1 rfl (Sub.C1 rfl (Sub.C1 rfl (Sub.C1 rfl (Sub.C1 rfl Sub.nil)))))))))) ⟨hs.down hh1 hh2 (by rw [hlt, hp]), hO, hE⟩ (by show hh - i < j - i; omega)
    · replace hc : i = j := by have := of_decide_eq_false hc; simp only at this; omega
      subst hc
      refine WP.exit ?_
      (with_reducible repeat (first | refine QN.tx ?_ | refine QN.bx ?_ | refine QN.B1 ?_))
      exact QN.cutEnd i (Sub.C1 rfl (Sub.C1 rfl (Sub.C1 rfl (Sub.C1 rfl (Sub.C1 rfl (Sub.C1 rfl (Sub.C1 rfl (Sub.C1 rfl Sub.nil)))))))) ⟨hs, hO, hE⟩
  rintro s mS ⟨hs, hO, hE⟩
  obtain ⟨le1, _, le3⟩ := hs.le
  have hfound : Go.Mrg.Found (ltOf cf) l (mid + md) lo hi s := by
    refine ⟨⟨le1, le3⟩, ?_, ?_⟩
    · rcases hs.low with h1 | h1
      · exact .inl h1
      · by_cases hsl : s = lo
        · exact .inl hsl
        · obtain ⟨y, x, hy, hx, hlt⟩ := ltAt_get (by omega) (by omega) h1
          rw [show mid + md - 1 - (s - 1) = mid + md - s by omega] at hy
          exact .inr ⟨x, y, hx, hy, hlt⟩
    · rcases hs.high with h1 | h1
      · exact .inl h1
      · by_cases hsh : s = hi
        · exact .inl hsh
        · obtain ⟨y, x, hy, hx, hlt⟩ := ltAt_get (by omega) (by omega) h1
          exact .inr ⟨x, y, hx, hy, hlt⟩
  (with_reducible repeat (first | refine WP.S1 ?_ | refine WP.B1 ?_ | refine WP.R1 ?_))
  refine RL.pure T_ok 3 rfl ?_
  refine RL.eqv (v' := .int .i64 ((mid + md - s : Nat) : Int)) (congrArg _ (by rw [wrap_i64_in _ (by omega) (by omega)]; omega)) ?_
  refine RL.A1 T_ok rfl ?_
  refine RL.N1 ?_; (with_reducible repeat (first | refine QN.B1 ?_ | refine QN.N1 ?_))
  refine WP.cut (X := List Clk) (fun _ => [(0, .slice A n c), (1, .int .i64 a), (2, .int .i64 md), (3, .int .i64 b), (4, .func (.func g) #[] cb.toArray), (18, .int .i64 mid), (20, .int .i64 s), (24, .int .i64 ((mid + md - s : Nat) : Int))])
    (fun l1 m' => CR m' S A n c l1 ∧ Ext mc S m' ∧ Seg a b l l1 ∧ ∀ k, l1[k]? = if s ≤ k ∧ k < mid then l[k + (md - s)]? else if mid ≤ k ∧ k < mid + md - s then l[k - (mid - s)]? else l[k]?) ?_ ?_
  · (with_reducible repeat (first | refine WP.S1 ?_ | refine WP.B1 ?_ | refine WP.R1 ?_))
    refine RL.pure T_ok 3 rfl ?_
    by_cases r1 : s < md
    · refine RL.eqv (v' := .bool true) (congrArg _ (decide_eq_true (by omega))) ?_
      refine RL.pure T_ok 4 rfl ?_
      by_cases r2 : md < mid + md - s
      · refine RL.eqv (v' := .bool true) (congrArg _ (decide_eq_true (by omega))) ?_
        refine RL.A1 T_ok rfl ?_
        refine RL.N1 ?_; (with_reducible repeat (first | refine QN.B1 ?_ | refine QN.N1 ?_ | refine WP.S1 ?_ | refine WP.B1 ?_ | refine WP.R1 ?_))
        refine WP.condT rfl ?_
        (with_reducible repeat (first | refine WP.S1 ?_ | refine WP.B1 ?_ | refine WP.R1 ?_))
        refine RL.A1 T_ok rfl ?_
        refine RL.call (fi := []) (ca := []) rfl rfl rfl rfl (rotate_c mS S A n c l s md (mid + md - s) _ hO r1 r2 (by omega) hn) ?_
        rintro _ mR ⟨rfl, hER, l1, hOR, hSR, hRR⟩
        refine ⟨_, rfl, ?_⟩
        rw [show mid + md - s - md = mid - s by omega] at hRR
        exact RL.N1 (QN.cutEnd l1 (Sub.C1 rfl (Sub.C1 rfl (Sub.C1 rfl (Sub.C1 rfl (Sub.C1 rfl (Sub.C1 rfl (Sub.C1 rfl (Sub.C1 rfl Sub.nil)))))))) ⟨hOR, hE.trans hER (fun k hk => .inl hk), hSR.mono (by omega) (by omega), rot_at (by omega) (by omega) hRR⟩)
      · refine RL.eqv (v' := .bool false) (congrArg _ (decide_eq_false (by omega))) ?_
        refine RL.A1 T_ok rfl ?_
        refine RL.N1 ?_; (with_reducible repeat (first | refine QN.B1 ?_ | refine QN.N1 ?_ | refine WP.S1 ?_ | refine WP.B1 ?_ | refine WP.R1 ?_))
        refine WP.condF rfl ?_
        refine WP.skip ?_
        exact QN.cutEnd l (Sub.C1 rfl (Sub.C1 rfl (Sub.C1 rfl (Sub.C1 rfl (Sub.C1 rfl (Sub.C1 rfl (Sub.C1 rfl (Sub.C1 rfl Sub.nil)))))))) ⟨hO, hE, Seg.refl _ _ _, rot_none (by omega) (by omega) (.inr (by omega))⟩
    · refine RL.eqv (v' := .bool false) (congrArg _ (decide_eq_false (by omega))) ?_
      refine RL.A1 T_ok rfl ?_
      refine RL.N1 ?_; (with_reducible repeat (first | refine QN.B1 ?_ | refine QN.N1 ?_ | refine WP.S1 ?_ | refine WP.B1 ?_ | refine WP.R1 ?_))
      refine WP.condF rfl ?_
      refine WP.skip ?_
      exact QN.cutEnd l (Sub.C1 rfl (Sub.C1 rfl (Sub.C1 rfl (Sub.C1 rfl (Sub.C1 rfl (Sub.C1 rfl (Sub.C1 rfl (Sub.C1 rfl Sub.nil)))))))) ⟨hO, hE, Seg.refl _ _ _, rot_none (by omega) (by omega) (.inl (by omega))⟩
  rintro l1 m1 ⟨hO1, hE1, hSg1, hr⟩
  obtain ⟨hcross, u1, u2, u3, u4⟩ := merge_cross hS ham hmid.symm hU1 hU2 hlo hhi hfound hr
  refine WP.cut (X := List Clk) (fun _ => [(0, .slice A n c), (1, .int .i64 a), (2, .int .i64 md), (3, .int .i64 b), (4, .func (.func g) #[] cb.toArray), (18, .int .i64 mid), (24, .int .i64 ((mid + md - s : Nat) : Int))])
    (fun l2 m' => CR m' S A n c l2 ∧ Ext mc S m' ∧ Seg a mid l1 l2 ∧ Up (ltOf cf) l2 a mid) ?_ ?_
  · (with_reducible repeat (first | refine WP.S1 ?_ | refine WP.B1 ?_ | refine WP.R1 ?_))
    refine RL.pure T_ok 3 rfl ?_
    by_cases r1 : a < s
    · refine RL.eqv (v' := .bool true) (congrArg _ (decide_eq_true (by omega))) ?_
      refine RL.pure T_ok 4 rfl ?_
      by_cases r2 : s < mid
      · refine RL.eqv (v' := .bool true) (congrArg _ (decide_eq_true (by omega))) ?_
        refine RL.A1 T_ok rfl ?_
        refine RL.N1 ?_; (with_reducible repeat (first | refine QN.B1 ?_ | refine QN.N1 ?_ | refine WP.S1 ?_ | refine WP.B1 ?_ | refine WP.R1 ?_))
        refine WP.condT rfl ?_
        (with_reducible repeat (first | refine WP.S1 ?_ | refine WP.B1 ?_ | refine WP.R1 ?_))
        refine RL.A1 T_ok rfl ?_
        refine RL.call (fi := []) (ca := []) rfl rfl rfl rfl (ih m1 l1 a s mid (by omega) (hC.keep _ _ hK hE1) hO1 r1 r2 (by omega) u1 u2) ?_
        rintro _ mR ⟨rfl, hER, l2, hOR, hSR, hUR⟩
        refine ⟨_, rfl, ?_⟩
        exact RL.N1 (QN.cutEnd l2 (Sub.C1 rfl (Sub.C1 rfl (Sub.C1 rfl (Sub.C1 rfl (Sub.C1 rfl (Sub.C1 rfl (Sub.C1 rfl Sub.nil))))))) ⟨hOR, hE1.trans hER (fun k hk => .inl hk), hSR, hUR⟩)
      · refine RL.eqv (v' := .bool false) (congrArg _ (decide_eq_false (by omega))) ?_
        refine RL.A1 T_ok rfl ?_
        refine RL.N1 ?_; (with_reducible repeat (first | refine QN.B1 ?_ | refine QN.N1 ?_ | refine WP.S1 ?_ | refine WP.B1 ?_ | refine WP.R1 ?_))
        refine WP.condF rfl ?_
        refine WP.skip ?_
        exact QN.cutEnd l1 (Sub.C1 rfl (Sub.C1 rfl (Sub.C1 rfl (Sub.C1 rfl (Sub.C1 rfl (Sub.C1 rfl (Sub.C1 rfl Sub.nil))))))) ⟨hO1, hE1, Seg.refl _ _ _, u1.sub (Nat.le_refl _) (by omega)⟩
    · refine RL.eqv (v' := .bool false) (congrArg _ (decide_eq_false (by omega))) ?_
      refine RL.A1 T_ok rfl ?_
      refine RL.N1 ?_; (with_reducible repeat (first | refine QN.B1 ?_ | refine QN.N1 ?_ | refine WP.S1 ?_ | refine WP.B1 ?_ | refine WP.R1 ?_))
      refine WP.condF rfl ?_
      refine WP.skip ?_
      exact QN.cutEnd l1 (Sub.C1 rfl (Sub.C1 rfl (Sub.C1 rfl (Sub.C1 rfl (Sub.C1 rfl (Sub.C1 rfl (Sub.C1 rfl Sub.nil))))))) ⟨hO1, hE1, Seg.refl _ _ _, u2.sub (by omega) (Nat.le_refl _)⟩
  rintro l2 m2 ⟨hO2, hE2, hSg2, hUp2⟩
  have v3 := u3.of_out hSg2 (.inr (Nat.le_refl _))
  have v4 := u4.of_out hSg2 (.inr (by omega))
  (with_reducible repeat (first | refine WP.S1 ?_ | refine WP.B1 ?_ | refine WP.R1 ?_))
  refine RL.pure T_ok 3 rfl ?_
  by_cases r1 : mid < mid + md - s
  · refine RL.eqv (v' := .bool true) (congrArg _ (decide_eq_true (by omega))) ?_
    refine RL.pure T_ok 4 rfl ?_
    by_cases r2 : mid + md - s < b
    · refine RL.eqv (v' := .bool true) (congrArg _ (decide_eq_true (by omega))) ?_
      refine RL.A1 T_ok rfl ?_
      refine RL.N1 ?_; (with_reducible repeat (first | refine QN.B1 ?_ | refine QN.N1 ?_ | refine WP.S1 ?_ | refine WP.B1 ?_ | refine WP.R1 ?_))
      refine WP.condT rfl ?_
      (with_reducible repeat (first | refine WP.S1 ?_ | refine WP.B1 ?_ | refine WP.R1 ?_))
      refine RL.A1 T_ok rfl ?_
      refine RL.call (fi := []) (ca := []) rfl rfl rfl rfl (ih m2 l2 mid (mid + md - s) b (by omega) (hC.keep _ _ hK hE2) hO2 r1 r2 hbn v3 v4) ?_
      rintro _ m3 ⟨rfl, hE3, l3, hO3, hS3, hU3⟩
      refine ⟨_, rfl, ?_⟩
      obtain ⟨w1, w2⟩ := halves hSg2 hS3 (by omega) (by omega) hUp2 hU3 hcross
      exact RL.N1 (QN.end0 rfl ⟨_, rfl, rfl, hE2.trans hE3 (fun k hk => .inl hk), l3, hO3, hSg1.trans w1, w2⟩)
    · refine RL.eqv (v' := .bool false) (congrArg _ (decide_eq_false (by omega))) ?_
      refine RL.A1 T_ok rfl ?_
      refine RL.N1 ?_; (with_reducible repeat (first | refine QN.B1 ?_ | refine QN.N1 ?_ | refine WP.S1 ?_ | refine WP.B1 ?_ | refine WP.R1 ?_))
      refine WP.condF rfl ?_
      refine WP.skip ?_
      obtain ⟨w1, w2⟩ := halves hSg2 (Seg.refl mid b l2) (by omega) (by omega) hUp2 (v3.sub (Nat.le_refl _) (by omega)) hcross
      exact QN.end0 rfl ⟨_, rfl, rfl, hE2, l2, hO2, hSg1.trans w1, w2⟩
  · refine RL.eqv (v' := .bool false) (congrArg _ (decide_eq_false (by omega))) ?_
    refine RL.A1 T_ok rfl ?_
    refine RL.N1 ?_; (with_reducible repeat (first | refine QN.B1 ?_ | refine QN.N1 ?_ | refine WP.S1 ?_ | refine WP.B1 ?_ | refine WP.R1 ?_))
    refine WP.condF rfl ?_
    refine WP.skip ?_
    obtain ⟨w1, w2⟩ := halves hSg2 (Seg.refl mid b l2) (by omega) (by omega) hUp2 (v4.sub (by omega) (Nat.le_refl _)) hcross
    exact QN.end0 rfl ⟨_, rfl, rfl, hE2, l2, hO2, hSg1.trans w1, w2⟩
end Go.Proofs.YtmjpcaiehfimgaaDoor
end
section
namespace Go.Proofs.YtmjpcaiehfimgaaDoor
open Go.RowKit Go.Ev Go.Ids Go.Mrg Go.Sort
theorem stable_c (S : List Nat) (A : Option Addr) (n c : Nat) (g : FuncId) (cb : List Value) (cf : Clk → Clk → Int) (K : World → Prop) (hC : Cmp Tryd.prog S g cb cf K) (hS : SWO (ltOf cf)) (hn : n < 1000000000)
    (m : World) (l : List Clk) (hK : K m) (h : CR m S A n c l) :
    FnR Tryd.prog 79 [.slice A n c, .int .i64 n, .func (.func g) #[] cb.toArray] m fun r m' => r = .tuple #[] ∧ Ext m S m' ∧ ∃ l', CR m' S A n c l' ∧ l'.Perm l ∧ Up (ltOf cf) l' 0 n := by
  refine FnE.enter ⟨_, Tryd.func79, by kernel_rfl, by kernel_rfl⟩ Tryd.func79 rfl rfl ?_
  (with_reducible repeat (first | refine WP.S1 ?_ | refine WP.B1 ?_ | refine WP.R1 ?_))
  refine RL.A1 T_ok rfl ?_
  refine RL.N1 ?_; (with_reducible repeat (first | refine QN.B1 ?_ | refine QN.N1 ?_ | refine WP.S1 ?_ | refine WP.B1 ?_ | refine WP.R1 ?_))
  refine RL.A1 T_ok rfl ?_
  refine RL.N1 ?_; (with_reducible repeat (first | refine QN.B1 ?_ | refine QN.N1 ?_))
  refine WP.cut (X := Nat × List Clk) (fun q => [(0, .slice A n c), (1, .int .i64 n), (2, .func (.func g) #[] cb.toArray), (6, .int .i64 20), (7, .int .i64 ((q.1 * 20 : Nat) : Int))])
    (fun q m' => CR m' S A n c q.2 ∧ Ext m S m' ∧ Seg 0 n l q.2 ∧ Done (ltOf cf) 20 q.2 q.1 ∧ q.1 * 20 ≤ n ∧ n < q.1 * 20 + 20) ?_ ?_
  · refine WP.B1 ?_
    refine (WP.loop (X := Nat × List Clk) (fun q => [(0, .slice A n c), (1, .int .i64 n), (2, .func (.func g) #[] cb.toArray), (6, .int .i64 20), (7, .int .i64 ((q.1 * 20 : Nat) : Int)), (8, .int .i64 ((q.1 * 20 + 20 : Nat) : Int))])
      (fun q m' => CR m' S A n c q.2 ∧ Ext m S m' ∧ Seg 0 n l q.2 ∧ Done (ltOf cf) 20 q.2 q.1 ∧ q.1 * 20 ≤ n) (fun q => n - q.1) (0, l)
      (Sub.C1 rfl (Sub.C1 rfl (Sub.C1 rfl (Sub.C1 rfl (Sub.C1 rfl (Sub.C1 rfl Sub.nil)))))) ⟨h, Ext.refl _ _, Seg.refl _ _ _, Done.zero _ _ _, by show 0 * 20 ≤ n; omega⟩ ?_)
    rintro ⟨q, l1⟩ m1 ⟨hO, hE, hSg, hD, hq⟩
    simp only at hO hSg hD hq
    (with_reducible repeat (first | refine WP.S1 ?_ | refine WP.B1 ?_ | refine WP.R1 ?_))
    refine RL.pure T_ok 3 rfl ?_
    by_cases hc : q * 20 + 20 ≤ n
    · refine RL.eqv (v' := .bool true) (congrArg _ (decide_eq_true (by simp only; omega))) ?_
      refine RL.N1 ?_; (with_reducible repeat (first | refine QN.B1 ?_ | refine QN.N1 ?_ | refine WP.S1 ?_ | refine WP.B1 ?_ | refine WP.R1 ?_))
      refine WP.condT rfl ?_
      refine WP.skip ?_; (with_reducible repeat (first | refine QN.B1 ?_ | refine QN.N1 ?_ | refine WP.S1 ?_ | refine WP.B1 ?_ | refine WP.R1 ?_))
      refine RL.A1 T_ok rfl ?_
      refine RL.call (fi := []) (ca := []) rfl rfl rfl rfl (insert_c m1 S A n c l1 (q * 20) (q * 20 + 20) g cb cf K hC (hC.keep _ _ hK hE) hS hO (by omega) hc hn) ?_
      rintro _ m2 ⟨rfl, hE2, l2, hO2, hS2, hU2⟩
      refine ⟨_, rfl, ?_⟩
      refine RL.N1 ?_; (with_reducible repeat (first | refine QN.B1 ?_ | refine QN.N1 ?_ | refine WP.S1 ?_ | refine WP.B1 ?_ | refine WP.R1 ?_))
      refine RL.A1 T_ok rfl ?_
      refine RL.N1 ?_; (with_reducible repeat (first | refine QN.B1 ?_ | refine QN.N1 ?_ | refine WP.S1 ?_ | refine WP.B1 ?_ | refine WP.R1 ?_))
      refine RL.pure T_ok 3 rfl ?_
      refine RL.eqv (v' := .int .i64 (((q + 1) * 20 + 20 : Nat) : Int)) (congrArg _ (by rw [wrap_i64_in _ (by simp only; omega) (by simp only; omega)]; simp only; omega)) ?_
      refine RL.sub (e' := [(0, .slice A n c), (1, .int .i64 n), (2, .func (.func g) #[] cb.toArray), (6, .int .i64 20), (7, .int .i64 ((q * 20 + 20 : Nat) : Int)), (22, .int .i64 (((q + 1) * 20 + 20 : Nat) : Int))]) (Sub.C1 rfl (Sub.C1 rfl (Sub.C1 rfl (Sub.C1 rfl (Sub.C1 rfl (Sub.C1 rfl Sub.nil)))))) ?_
      rw [show q * 20 + 20 = (q + 1) * 20 by omega] at hU2 hS2 ⊢
      refine RL.A1 T_ok rfl ?_
      refine RL.N1 ?_
      (with_reducible repeat (first | refine QN.B1 ?_ | refine QN.N1 ?_))
      exact QN.round (q + 1, l2) (Sub.C1 rfl (Sub.C1 rfl (Sub.C1 rfl (Sub.C1 rfl (Sub.C1 rfl (Sub.C1 rfl Sub.nil)))))) ⟨hO2, hE.trans hE2 (fun k hk => .inl hk), hSg.trans (hS2.mono (by omega) (by omega)), hD.next hS2 (by rw [show q * 20 + 20 = (q + 1) * 20 by omega]; exact hU2), by show (q + 1) * 20 ≤ n; omega⟩ (by show n - (q + 1) < n - q; omega)
    · refine RL.eqv (v' := .bool false) (congrArg _ (decide_eq_false (by simp only; omega))) ?_
      refine RL.N1 ?_; (with_reducible repeat (first | refine QN.B1 ?_ | refine QN.N1 ?_ | refine WP.S1 ?_ | refine WP.B1 ?_ | refine WP.R1 ?_))
      refine WP.condF rfl ?_
      refine WP.exit ?_
      (with_reducible repeat (first | refine QN.tx ?_ | refine QN.bx ?_ | refine QN.B1 ?_))
      exact QN.cutEnd (q, l1) (Sub.C1 rfl (Sub.C1 rfl (Sub.C1 rfl (Sub.C1 rfl (Sub.C1 rfl Sub.nil))))) ⟨hO, hE, hSg, hD, hq, by show n < q * 20 + 20; omega⟩
  rintro ⟨q, l1⟩ m1 ⟨hO, hE, hSg, hD, hq, hq2⟩
  simp only at hO hSg hD hq hq2
  (with_reducible repeat (first | refine WP.S1 ?_ | refine WP.B1 ?_ | refine WP.R1 ?_))
  refine RL.A1 T_ok rfl ?_
  refine RL.call (fi := []) (ca := []) rfl rfl rfl rfl (insert_c m1 S A n c l1 (q * 20) n g cb cf K hC (hC.keep _ _ hK hE) hS hO hq (Nat.le_refl _) hn) ?_
  rintro _ m2 ⟨rfl, hE2, l2, hO2, hS2, hU2⟩
  refine ⟨_, rfl, ?_⟩
  have hR2 := hD.last hS2 hU2 hq hq2
  replace hE2 := hE.trans hE2 (fun k hk => .inl hk)
  replace hSg := hSg.trans (hS2.mono (by omega) (Nat.le_refl _))
  clear hO hE hD hq hq2 hS2 hU2
  refine RL.N1 ?_; (with_reducible repeat (first | refine QN.B1 ?_ | refine QN.N1 ?_ | refine WP.S1 ?_ | refine WP.B1 ?_ | refine WP.R1 ?_))
  refine (WP.loop (X := Nat × List Clk) (fun q => [(0, .slice A n c), (1, .int .i64 n), (2, .func (.func g) #[] cb.toArray), (6, .int .i64 q.1)])
    (fun q m' => 1 ≤ q.1 ∧ CR m' S A n c q.2 ∧ Ext m S m' ∧ Seg 0 n l q.2 ∧ Go.Mrg.Rest (ltOf cf) q.1 q.2 n 0) (fun q => n - q.1) (20, l2)
    (Sub.C1 rfl (Sub.C1 rfl (Sub.C1 rfl (Sub.C1 rfl Sub.nil)))) ⟨by show 1 ≤ 20; omega, hO2, hE2, hSg, hR2⟩ ?_)
  clear hO2 hE2 hSg hR2
  rintro ⟨B, l2⟩ m2 ⟨hB1, hO2, hE2, hSg, hR2⟩
  simp only at hB1 hO2 hSg hR2
  (with_reducible repeat (first | refine WP.S1 ?_ | refine WP.B1 ?_ | refine WP.R1 ?_))
  refine RL.pure T_ok 3 rfl ?_
  by_cases hcB : B < n
  rotate_left
  · refine RL.eqv (v' := .bool false) (congrArg _ (decide_eq_false (by simp only; omega))) ?_
    refine RL.N1 ?_; (with_reducible repeat (first | refine QN.B1 ?_ | refine QN.N1 ?_ | refine WP.S1 ?_ | refine WP.B1 ?_ | refine WP.R1 ?_))
    refine WP.condF rfl ?_
    refine WP.exit ?_
    (with_reducible repeat (first | refine QN.tx ?_ | refine QN.bx ?_ | refine QN.block_far rfl ?_ | refine QN.B1 ?_ | refine QN.N1 ?_))
    exact QN.end0 rfl ⟨_, rfl, rfl, hE2, l2, hO2, hSg.perm, hR2.all (by omega)⟩
  refine RL.eqv (v' := .bool true) (congrArg _ (decide_eq_true (by simp only; omega))) ?_
  refine RL.N1 ?_; (with_reducible repeat (first | refine QN.B1 ?_ | refine QN.N1 ?_ | refine WP.S1 ?_ | refine WP.B1 ?_ | refine WP.R1 ?_))
  refine WP.condT rfl ?_
  refine WP.skip ?_; (with_reducible repeat (first | refine QN.B1 ?_ | refine QN.N1 ?_ | refine WP.S1 ?_ | refine WP.B1 ?_ | refine WP.R1 ?_))
  refine RL.pure T_ok 2 rfl ?_
  refine RL.eqv (v' := .int .i64 ((2 * B : Nat) : Int)) (congrArg _ (by rw [wrap_i64_in _ (by simp only; omega) (by simp only; omega)]; simp only; omega)) ?_
  refine RL.A1 T_ok rfl ?_
  refine RL.N1 ?_; (with_reducible repeat (first | refine QN.B1 ?_ | refine QN.N1 ?_))
  refine WP.cut (X := Nat × List Clk) (fun q => [(0, .slice A n c), (1, .int .i64 n), (2, .func (.func g) #[] cb.toArray), (6, .int .i64 B), (7, .int .i64 ((q.1 * (2 * B) : Nat) : Int))])
    (fun q m' => CR m' S A n c q.2 ∧ Ext m S m' ∧ Seg 0 n l q.2 ∧ Done (ltOf cf) (2 * B) q.2 q.1 ∧ Go.Mrg.Rest (ltOf cf) B q.2 n (2 * q.1) ∧ q.1 * (2 * B) ≤ n ∧ n < q.1 * (2 * B) + 2 * B) ?_ ?_
  · refine WP.B1 ?_
    have h07 : ((0 : Nat) * (2 * B) : Nat) = 0 := Nat.zero_mul _
    refine (WP.loop (X := Nat × List Clk) (fun q => [(0, .slice A n c), (1, .int .i64 n), (2, .func (.func g) #[] cb.toArray), (6, .int .i64 B), (7, .int .i64 ((q.1 * (2 * B) : Nat) : Int)), (8, .int .i64 ((q.1 * (2 * B) + 2 * B : Nat) : Int))])
      (fun q m' => CR m' S A n c q.2 ∧ Ext m S m' ∧ Seg 0 n l q.2 ∧ Done (ltOf cf) (2 * B) q.2 q.1 ∧ Go.Mrg.Rest (ltOf cf) B q.2 n (2 * q.1) ∧ q.1 * (2 * B) ≤ n) (fun q => n - q.1 * (2 * B)) (0, l2)
      (Sub.C1 rfl (Sub.C1 rfl (Sub.C1 rfl (Sub.C1 rfl (Sub.C1 (by simp only [h07]; rfl) (Sub.C1 (by simp only [h07, Nat.zero_add]; rfl) Sub.nil)))))) ⟨hO2, hE2, hSg, Done.zero _ _ _, hR2, by show 0 * (2 * B) ≤ n; omega⟩ ?_)
    clear hO2 hE2 hSg hR2
    rintro ⟨q, l3⟩ m3 ⟨hO, hE, hSg, hD, hR, hq⟩
    simp only at hO hSg hD hR hq
    obtain ⟨a, ha⟩ : ∃ a, q * (2 * B) = a := ⟨_, rfl⟩
    have ha1 : (q + 1) * (2 * B) = a + 2 * B := by rw [Nat.succ_mul, ha]
    obtain ⟨t1, t2⟩ := hR.two
    rw [ha] at t1 t2 hq
    refine WP.sub (e' := [(0, .slice A n c), (1, .int .i64 n), (2, .func (.func g) #[] cb.toArray), (6, .int .i64 B), (7, .int .i64 (a : Int)), (8, .int .i64 ((a + 2 * B : Nat) : Int))]) (Sub.C1 rfl (Sub.C1 rfl (Sub.C1 rfl (Sub.C1 rfl (Sub.C1 (by rw [← ha]; rfl) (Sub.C1 (by rw [← ha]; rfl) Sub.nil)))))) ?_
    (with_reducible repeat (first | refine WP.S1 ?_ | refine WP.B1 ?_ | refine WP.R1 ?_))
    refine RL.pure T_ok 3 rfl ?_
    by_cases hc : a + 2 * B ≤ n
    · refine RL.eqv (v' := .bool true) (congrArg _ (decide_eq_true (by omega))) ?_
      refine RL.N1 ?_; (with_reducible repeat (first | refine QN.B1 ?_ | refine QN.N1 ?_ | refine WP.S1 ?_ | refine WP.B1 ?_ | refine WP.R1 ?_))
      refine WP.condT rfl ?_
      refine WP.skip ?_; (with_reducible repeat (first | refine QN.B1 ?_ | refine QN.N1 ?_ | refine WP.S1 ?_ | refine WP.B1 ?_ | refine WP.R1 ?_))
      refine RL.pure T_ok 5 rfl ?_
      refine RL.eqv (v' := .int .i64 ((a + B : Nat) : Int)) (congrArg _ (by rw [wrap_i64_in _ (by omega) (by omega)]; omega)) ?_
      refine RL.A1 T_ok rfl ?_
      rw [Nat.min_eq_left (by omega)] at t1 t2
      refine RL.call (fi := []) (ca := []) rfl rfl rfl rfl (merge_c S A n c g cb cf K hC hS hn (a + 2 * B - a) m3 l3 a (a + B) (a + 2 * B) (Nat.le_refl _) (hC.keep _ _ hK hE) hO (by omega) (by omega) hc t1 (by rw [show a + 2 * B = a + B + B by omega]; exact t2)) ?_
      rintro _ m4 ⟨rfl, hE4, l4, hO4, hS4, hU4⟩
      refine ⟨_, rfl, ?_⟩
      refine RL.N1 ?_; (with_reducible repeat (first | refine QN.B1 ?_ | refine QN.N1 ?_ | refine WP.S1 ?_ | refine WP.B1 ?_ | refine WP.R1 ?_))
      refine RL.A1 T_ok rfl ?_
      refine RL.N1 ?_; (with_reducible repeat (first | refine QN.B1 ?_ | refine QN.N1 ?_ | refine WP.S1 ?_ | refine WP.B1 ?_ | refine WP.R1 ?_))
      refine RL.pure T_ok 3 rfl ?_
      refine RL.eqv (v' := .int .i64 ((2 * B : Nat) : Int)) (congrArg _ (by rw [wrap_i64_in _ (by omega) (by omega)]; omega)) ?_
      refine RL.pure T_ok 1 rfl ?_
      refine RL.eqv (v' := .int .i64 ((a + 2 * B + 2 * B : Nat) : Int)) (congrArg _ (by rw [wrap_i64_in _ (by omega) (by omega)]; omega)) ?_
      refine RL.A1 T_ok rfl ?_
      refine RL.N1 ?_
      (with_reducible repeat (first | refine QN.B1 ?_ | refine QN.N1 ?_))
      rw [← ha] at hS4 hU4
      exact QN.round (q + 1, l4) (Sub.C1 rfl (Sub.C1 rfl (Sub.C1 rfl (Sub.C1 rfl (Sub.C1 (by rw [ha1]; rfl) (Sub.C1 (by rw [ha1]; rfl) Sub.nil)))))) ⟨hO4, hE.trans hE4 (fun k hk => .inl hk), hSg.trans (hS4.mono (by omega) (by rw [ha]; omega)), hD.next hS4 hU4, hR.next hS4, by show (q + 1) * (2 * B) ≤ n; rw [ha1]; exact hc⟩ (by show n - (q + 1) * (2 * B) < n - q * (2 * B); rw [ha1, ha]; omega)
    · refine RL.eqv (v' := .bool false) (congrArg _ (decide_eq_false (by omega))) ?_
      refine RL.N1 ?_; (with_reducible repeat (first | refine QN.B1 ?_ | refine QN.N1 ?_ | refine WP.S1 ?_ | refine WP.B1 ?_ | refine WP.R1 ?_))
      refine WP.condF rfl ?_
      refine WP.exit ?_
      (with_reducible repeat (first | refine QN.tx ?_ | refine QN.bx ?_ | refine QN.B1 ?_))
      exact QN.cutEnd (q, l3) (Sub.C1 rfl (Sub.C1 rfl (Sub.C1 rfl (Sub.C1 rfl (Sub.C1 (by rw [ha]; rfl) Sub.nil))))) ⟨hO, hE, hSg, hD, hR, by show q * (2 * B) ≤ n; omega, by show n < q * (2 * B) + 2 * B; omega⟩
  clear hO2 hE2 hSg hR2
  rintro ⟨q, l3⟩ m3 ⟨hO, hE, hSg, hD, hR, hq, hq2⟩
  simp only at hO hSg hD hR hq hq2
  obtain ⟨a, ha⟩ : ∃ a, q * (2 * B) = a := ⟨_, rfl⟩
  obtain ⟨t1, t2⟩ := hR.two
  rw [ha] at t1 t2
  refine WP.sub (e' := [(0, .slice A n c), (1, .int .i64 n), (2, .func (.func g) #[] cb.toArray), (6, .int .i64 B), (7, .int .i64 (a : Int))]) (Sub.C1 rfl (Sub.C1 rfl (Sub.C1 rfl (Sub.C1 rfl (Sub.C1 (by rw [← ha]; rfl) Sub.nil))))) ?_
  refine WP.cut (X := List Clk) (fun _ => [(0, .slice A n c), (1, .int .i64 n), (2, .func (.func g) #[] cb.toArray), (6, .int .i64 B)]) (fun l4 m' => CR m' S A n c l4 ∧ Ext m S m' ∧ Seg (q * (2 * B)) n l3 l4 ∧ Up (ltOf cf) l4 (q * (2 * B)) n) ?_ ?_
  · (with_reducible repeat (first | refine WP.S1 ?_ | refine WP.B1 ?_ | refine WP.R1 ?_))
    refine RL.pure T_ok 3 rfl ?_
    refine RL.eqv (v' := .int .i64 ((a + B : Nat) : Int)) (congrArg _ (by rw [wrap_i64_in _ (by omega) (by omega)]; omega)) ?_
    refine RL.A1 T_ok rfl ?_
    refine RL.N1 ?_; (with_reducible repeat (first | refine QN.B1 ?_ | refine QN.N1 ?_ | refine WP.S1 ?_ | refine WP.B1 ?_ | refine WP.R1 ?_))
    refine RL.pure T_ok 3 rfl ?_
    by_cases hc : a + B < n
    · refine RL.eqv (v' := .bool true) (congrArg _ (decide_eq_true (by omega))) ?_
      refine RL.N1 ?_; (with_reducible repeat (first | refine QN.B1 ?_ | refine QN.N1 ?_ | refine WP.S1 ?_ | refine WP.B1 ?_ | refine WP.R1 ?_))
      refine WP.condT rfl ?_
      (with_reducible repeat (first | refine WP.S1 ?_ | refine WP.B1 ?_ | refine WP.R1 ?_))
      refine RL.A1 T_ok rfl ?_
      rw [Nat.min_eq_left (by omega)] at t1
      rw [Nat.min_eq_right (by omega)] at t2
      refine RL.call (fi := []) (ca := []) rfl rfl rfl rfl (merge_c S A n c g cb cf K hC hS hn (n - a) m3 l3 a (a + B) n (Nat.le_refl _) (hC.keep _ _ hK hE) hO (by omega) hc (Nat.le_refl _) t1 t2) ?_
      rintro _ m4 ⟨rfl, hE4, l4, hO4, hS4, hU4⟩
      refine ⟨_, rfl, ?_⟩
      exact RL.N1 (QN.cutEnd l4 (Sub.C1 rfl (Sub.C1 rfl (Sub.C1 rfl (Sub.C1 rfl Sub.nil)))) ⟨hO4, hE.trans hE4 (fun k hk => .inl hk), by rw [ha]; exact hS4, by rw [ha]; exact hU4⟩)
    · refine RL.eqv (v' := .bool false) (congrArg _ (decide_eq_false (by omega))) ?_
      refine RL.N1 ?_; (with_reducible repeat (first | refine QN.B1 ?_ | refine QN.N1 ?_ | refine WP.S1 ?_ | refine WP.B1 ?_ | refine WP.R1 ?_))
      refine WP.condF rfl ?_
      refine WP.skip ?_
      rw [Nat.min_eq_right (by omega)] at t1
      exact QN.cutEnd l3 (Sub.C1 rfl (Sub.C1 rfl (Sub.C1 rfl (Sub.C1 rfl Sub.nil)))) ⟨hO, hE, Seg.refl _ _ _, by rw [ha]; exact t1⟩
  rintro l4 m4 ⟨hO4, hE4, hS4, hU4⟩
  (with_reducible repeat (first | refine WP.S1 ?_ | refine WP.B1 ?_ | refine WP.R1 ?_))
  refine RL.pure T_ok 2 rfl ?_
  refine RL.eqv (v' := .int .i64 ((B * 2 : Nat) : Int)) (congrArg _ (by rw [wrap_i64_in _ (by omega) (by omega)]; omega)) ?_
  refine RL.A1 T_ok rfl ?_
  refine RL.N1 ?_
  (with_reducible repeat (first | refine QN.B1 ?_ | refine QN.N1 ?_))
  exact QN.round (B * 2, l4) (Sub.C1 rfl (Sub.C1 rfl (Sub.C1 rfl (Sub.C1 rfl Sub.nil)))) ⟨by show 1 ≤ B * 2; omega, hO4, hE4, hSg.trans (hS4.mono (by omega) (Nat.le_refl _)), by rw [show B * 2 = 2 * B by omega]; exact hD.last hS4 hU4 hq hq2⟩ (by show n - B * 2 < n - B; omega)
theorem sortStable_c (S : List Nat) (v : Value) (g : FuncId) (cb : List Value) (cf : Clk → Clk → Int) (K : World → Prop) (hC : Cmp Tryd.prog S g cb cf K) (hS : SWO (ltOf cf))
    (m : World) (l : List Clk) (hK : K m) (h : Ev.Own m S 39 2 v l.length (l.flatMap cC)) (hn : l.length < 1000000000) :
    FnR Tryd.prog 65 [v, .func (.func g) #[] cb.toArray] m fun r m' => r = .tuple #[] ∧ Ext m S m' ∧ ∃ l' : List Clk, Ev.Own m' S 39 2 v l'.length (l'.flatMap cC) ∧ l'.Perm l ∧ l'.Pairwise (fun x y => ltOf cf y x = false) := by
  obtain ⟨A, c, rfl, _⟩ := h.shape
  refine FnE.enter ⟨_, Tryd.func65, by kernel_rfl, by kernel_rfl⟩ Tryd.func65 rfl rfl ?_
  (with_reducible repeat (first | refine WP.S1 ?_ | refine WP.B1 ?_ | refine WP.R1 ?_))
  refine RL.A1 T_ok rfl ?_
  refine RL.call (fi := []) (ca := []) rfl rfl rfl rfl (stable_c S A l.length c g cb cf K hC hS hn m l hK h) ?_
  rintro _ m2 ⟨rfl, hE2, l2, hO2, hP, hU⟩
  refine ⟨_, rfl, ?_⟩
  refine RL.N1 (QN.end0 rfl ⟨_, rfl, rfl, hE2, l2, by rw [hP.length_eq]; exact hO2, hP, ?_⟩)
  rw [List.pairwise_iff_getElem]
  intro i j hi hj hij
  exact hU i j _ _ (Nat.zero_le _) hij (by rw [← hP.length_eq]; exact hj) (List.getElem?_eq_getElem hi) (List.getElem?_eq_getElem hj)
end Go.Proofs.YtmjpcaiehfimgaaDoor
end
section
namespace Go.Proofs.YtmjpcaiehfimgaaDoor
open Go.RowKit Go.Ev Go.Ids Go.Mrg Go.Sort
theorem eqK_run (x y : Clk) (w : World) : (binOp .neq 39 (cV x) (cV y)).run Tryd.prog w = .ok (.bool (decide (x ≠ y))) w := by
  have hS : Tryd.prog.underlying 39 = some (.struct (Tryd.prog.fieldsOf 39)) := by kernel_rfl
  have hp : Tryd.prog.stoodInHeld 39 = false := by kernel_rfl
  have u37 := Tryd.underlying22
  have a37 := Tryd.isAgg22
  have z37 := Tryd.sizeOf22
  simp only [cV, cC]
  rw [run_neq_struct, show (10000 : Nat) = 9999 + 1 from rfl, run_equalIn_agg w 9999 39 _ _ hS hp]
  simp only [Program.fieldsOf, Tryd.underlying39]
  go_simp
  obtain ⟨a, b⟩ := x
  obtain ⟨a', b'⟩ := y
  by_cases h1 : a = a' <;> by_cases h2 : b = b' <;> simp [h1, h2, Int.natCast_inj]
theorem eqK_guard (x y : Clk) (ox oy : Operand) (w : World) : (eqGuard .neq 39 ox oy (cV x) (cV y)).run Tryd.prog w = .ok () w := run_eqGuard_agg w .neq 39 ox oy _ _ (by kernel_rfl)
def VMade (m : World) (r : Value) (l : List Clk) (m' : World) : Prop := ∃ S', Ev.Own m' S' 39 2 r l.length (l.flatMap cC) ∧ New m S' m'
theorem VMade.ext {m m' : World} {r : Value} {l : List Clk} (h : VMade m r l m') : Ext m [] m' := by obtain ⟨_, _, h⟩ := h; exact h.1
theorem VMade.cs {m m' : World} {r : Value} {l : List Clk} (h : VMade m r l m') : Cs m' [] r l := by obtain ⟨_, h, _⟩ := h; exact h.sl (by simp)
theorem cloneK_c (m : World) (v : Value) (l : List Clk) (h : Cs m [] v l) (hl : l.length < 1000000000) : FnR Tryd.prog 64 [v] m fun r m' => VMade m r l m' := by
  obtain ⟨A, c, rfl, _, _⟩ := h.shape
  refine FnE.enter ⟨_, Tryd.func64, by kernel_rfl, by kernel_rfl⟩ Tryd.func64 rfl rfl ?_
  (with_reducible repeat (first | refine WP.S1 ?_ | refine WP.B1 ?_ | refine WP.R1 ?_))
  refine RL.A1 T_ok rfl ?_
  refine RL.N1 ?_; (with_reducible repeat (first | refine QN.B1 ?_ | refine QN.N1 ?_ | refine WP.S1 ?_ | refine WP.B1 ?_ | refine WP.R1 ?_))
  refine RL.A1 T_ok rfl ?_
  refine RL.N1 ?_; (with_reducible repeat (first | refine QN.B1 ?_ | refine QN.N1 ?_ | refine WP.S1 ?_ | refine WP.B1 ?_ | refine WP.R1 ?_))
  refine WP.cond rfl (fun hc => ?_) (fun hc => ?_)
  · have hA : A = none := by simpa using hc
    subst hA
    have hl0 : l = [] := by
      rcases l with _ | ⟨x, l⟩
      · rfl
      · obtain ⟨ad, hh, _⟩ := h.cell 0 (by simp)
        cases hh
    subst hl0
    (with_reducible repeat (first | refine WP.S1 ?_ | refine WP.B1 ?_ | refine WP.R1 ?_))
    refine RL.A1 T_ok rfl ?_
    refine RL.N1 ?_; (with_reducible repeat (first | refine QN.B1 ?_ | refine QN.N1 ?_ | refine WP.S1 ?_ | refine WP.B1 ?_ | refine WP.R1 ?_))
    refine WP.ret ?_; (with_reducible repeat (first | refine QN.tr ?_ | refine QN.br ?_))
    exact QN.ret1 rfl rfl ⟨_, rfl, [], Own.empty _ _ _ _, Ext.refl _ _, FpNew.nil _ _⟩
  · refine WP.skip ?_; (with_reducible repeat (first | refine QN.B1 ?_ | refine QN.N1 ?_ | refine WP.S1 ?_ | refine WP.B1 ?_ | refine WP.R1 ?_))
    refine RL.buildSlice0 T_ok rfl rfl (fun b1 m1 hb1 hC1 => ⟨_, rfl, ?_⟩)
    have hE1 : Ext m [] m1 := hC1
    have hSl : Sl m1 [] 2 (.slice A l.length c) (l.flatMap cC) := h.ext0 hE1
    refine RL.A1 T_ok rfl ?_
    refine RL.append T_ok (Own.empty _ _ _ _) (l.flatMap cC) (Src.of_sl hSl) rfl rfl rfl rfl rfl (csC_len l) (csC_one l) (by unfold maxLen; omega) (by show (0 + _) * 16 ≤ _; omega) ?_
    intro v2 m2 S2 hO2 hE2 hF2
    refine ⟨_, rfl, ?_⟩
    rw [Nat.zero_add, List.nil_append] at hO2
    refine RL.A1 T_ok rfl ?_
    refine RL.N1 ?_; (with_reducible repeat (first | refine QN.B1 ?_ | refine QN.N1 ?_ | refine WP.S1 ?_ | refine WP.B1 ?_ | refine WP.R1 ?_))
    refine WP.ret ?_; (with_reducible repeat (first | refine QN.tr ?_ | refine QN.br ?_))
    exact QN.ret1 rfl rfl ⟨_, rfl, S2, hO2, hE1.trans hE2 (by simp), hF2.trans' hE1⟩
theorem keyK_c (m : World) (x : Clk) : FnR Tryd.prog 47 [cV x] m fun r m' => r = .int .u64 x.c ∧ Ext m [] m' := by
  refine FnE.enter ⟨_, Tryd.func47, by kernel_rfl, by kernel_rfl⟩ Tryd.func47 rfl rfl ?_
  (with_reducible repeat (first | refine WP.S1 ?_ | refine WP.B1 ?_ | refine WP.R1 ?_))
  refine RL.box rfl rfl (fun b m1 hb hC => ⟨_, rfl, ?_⟩)
  have hB : Blk m1 b 39 (cC x) := hC.here
  have hE1 : Ext m [] m1 := hC.new (by omega)
  clear hC
  refine RL.A1 T_ok rfl ?_
  refine RL.N1 ?_; (with_reducible repeat (first | refine QN.B1 ?_ | refine QN.N1 ?_ | refine WP.S1 ?_ | refine WP.B1 ?_ | refine WP.R1 ?_))
  refine RL.pure T_ok 1 rfl ?_
  refine RL.load T_ok rfl rfl rfl (hB.cell 0 rfl) rfl ?_
  refine RL.A1 T_ok rfl ?_
  refine RL.N1 ?_; (with_reducible repeat (first | refine QN.B1 ?_ | refine QN.N1 ?_ | refine WP.S1 ?_ | refine WP.B1 ?_ | refine WP.R1 ?_))
  refine WP.ret ?_; (with_reducible repeat (first | refine QN.tr ?_ | refine QN.br ?_))
  exact QN.ret1 rfl rfl ⟨_, rfl, rfl, hE1⟩
def cfK (x y : Clk) : Int := cmpN x.c y.c
theorem ltOf_cfK (x y : Clk) : Go.Proofs.ltOf cfK x y = true ↔ x.c < y.c := by
  unfold Go.Proofs.ltOf cfK cmpN
  rw [decide_eq_true_eq]
  split
  · omega
  · split <;> omega
theorem swoK : SWO (Go.Proofs.ltOf cfK) where
  irrefl x := by
    rw [← Bool.not_eq_true, ltOf_cfK]; omega
  trans x y z := by
    rw [ltOf_cfK, ltOf_cfK, ltOf_cfK]; omega
  ntrans x y z := by
    rw [← Bool.not_eq_true, ← Bool.not_eq_true, ← Bool.not_eq_true, ltOf_cfK, ltOf_cfK, ltOf_cfK]; omega
theorem cmpK_c (m : World) (x y : Clk) (bk : Nat) (hK : Blk m bk 87 [.func (.func 47) #[] #[]]) : FnR Tryd.prog 66 [cV x, cV y, .pointer (some ⟨bk, 0, none⟩)] m fun r m' => r = .int .i64 (cfK x y) ∧ Ext m [] m' := by
  refine FnE.enter ⟨_, Tryd.func66, by kernel_rfl, by kernel_rfl⟩ Tryd.func66 rfl rfl ?_
  (with_reducible repeat (first | refine WP.S1 ?_ | refine WP.B1 ?_ | refine WP.R1 ?_))
  refine RL.box rfl rfl (fun b1 m1 hb1 hC1 => ⟨_, rfl, ?_⟩)
  have hB1 : Blk m1 b1 39 (cC x) := hC1.here
  have hE1 : Ext m [] m1 := hC1.new (by omega)
  clear hC1
  refine RL.box rfl rfl (fun b2 m2 hb2 hC2 => ⟨_, rfl, ?_⟩)
  have hB2 : Blk m2 b2 39 (cC y) := hC2.here
  have hE2 : Ext m1 [] m2 := hC2.new (by omega)
  clear hC2
  replace hB1 := hB1.ext hE2 (by simp)
  replace hE2 := hE1.trans hE2 (by simp)
  replace hK := hK.ext hE2 (by simp)
  refine RL.A1 T_ok rfl ?_
  refine RL.N1 ?_; (with_reducible repeat (first | refine QN.B1 ?_ | refine QN.N1 ?_))
  refine WP.S1 ?_
  have ad0 : ∀ (b : Nat) (j : Nat), (⟨b, 0, none⟩ : Addr).add j = ⟨b, j, none⟩ := fun b j => by rw [add_block, Nat.zero_add]
  refine WP.drawQ (fun m' => Ext m2 [] m') [] (by kernel_rfl) (Ext.refl _ _) (by with_reducible repeat (first | exact PanicOk.body | refine PanicOk.then_ ?_ | refine PanicOk.block_ ?_)) (fun hQ => ?_)
  refine RH.load T_ok hQ 0 (fun m' hm' => (hK.ext hm' (by simp)).cell 0 rfl) rfl (by kernel_rfl) rfl rfl rfl rfl ?_
  refine RH.loadAgg T_ok hQ 1 (cC x) (fun m' hm' j u hu => by rw [ad0]; exact (hB1.ext hm' (by simp)).cell _ hu) rfl (by kernel_rfl) rfl rfl rfl rfl ?_
  refine RH.load T_ok hQ 3 (fun m' hm' => (hK.ext hm' (by simp)).cell 0 rfl) rfl (by kernel_rfl) rfl rfl rfl rfl ?_
  refine RH.loadAgg T_ok hQ 4 (cC y) (fun m' hm' j u hu => by rw [ad0]; exact (hB2.ext hm' (by simp)).cell _ hu) rfl (by kernel_rfl) rfl rfl rfl rfl ?_
  refine RH.only 2 rfl (by kernel_rfl) (fun _ => ?_)
  refine RL.call (fi := []) (ca := []) rfl rfl rfl rfl (keyK_c m2 x) ?_
  rintro _ m3 ⟨rfl, hE3⟩
  refine ⟨_, rfl, RL.N1 (RH.cont hE3 ?_)⟩
  refine RH.only 5 rfl (by kernel_rfl) (fun _ => ?_)
  refine RL.call (fi := []) (ca := []) rfl rfl rfl rfl (keyK_c m3 y) ?_
  rintro _ m4 ⟨rfl, hE4⟩
  replace hE4 := hE3.trans hE4 (by simp)
  refine ⟨_, rfl, RL.N1 (RH.cont hE4 ?_)⟩
  refine RH.only 6 rfl (by kernel_rfl) (fun _ => ?_)
  refine RL.call (fi := []) (ca := []) rfl rfl rfl rfl (compare_c m4 x.c y.c) ?_
  rintro _ m5 ⟨rfl, hm5⟩
  subst hm5
  refine ⟨_, rfl, RL.N1 (RH.cont hE4 ?_)⟩
  refine RH.pure T_ok hQ [7] (by kernel_rfl) rfl ?_
  refine RH.done (by kernel_rfl) (fun _ => ?_)
  (with_reducible repeat (first | refine QN.B1 ?_ | refine QN.N1 ?_))
  refine WP.ret ?_; (with_reducible repeat (first | refine QN.tr ?_ | refine QN.br ?_))
  exact QN.ret1 rfl rfl ⟨_, rfl, rfl, hE2.trans hE4 (by simp)⟩
theorem by_c (m : World) (v : Value) (l : List Clk) (h : Cs m [] v l) (hl : l.length < 1000000000) :
    FnR Tryd.prog 46 [v, .func (.func 47) #[] #[]] m fun r m' => ∃ l', l'.Perm l ∧ l'.Pairwise (fun x y => x.c ≤ y.c) ∧ VMade m r l' m' := by
  refine FnE.enter ⟨_, Tryd.func46, by kernel_rfl, by kernel_rfl⟩ Tryd.func46 rfl rfl ?_
  (with_reducible repeat (first | refine WP.S1 ?_ | refine WP.B1 ?_ | refine WP.R1 ?_))
  refine RL.box rfl rfl (fun b m1 hb hC => ⟨_, rfl, ?_⟩)
  have hB : Blk m1 b 87 [.func (.func 47) #[] #[]] := hC.here
  have hE1 : Ext m [] m1 := hC.new (by omega)
  clear hC
  refine RL.A1 T_ok rfl ?_
  refine RL.N1 ?_; (with_reducible repeat (first | refine QN.B1 ?_ | refine QN.N1 ?_ | refine WP.S1 ?_ | refine WP.B1 ?_ | refine WP.R1 ?_))
  refine RL.A1 T_ok rfl ?_
  refine RL.call (fi := []) (ca := []) rfl rfl rfl rfl (cloneK_c m1 v l (h.ext0 hE1) hl) ?_
  rintro v2 m2 ⟨S2, hO2, hN2⟩
  refine ⟨_, rfl, ?_⟩
  have hbS : b ∉ S2 := fun hh => by have := hN2.ge b hh; have := hB.lt; omega
  replace hB := hB.ext hN2.1 (by simp)
  refine RL.A1 T_ok rfl ?_
  refine RL.N1 ?_; (with_reducible repeat (first | refine QN.B1 ?_ | refine QN.N1 ?_ | refine WP.S1 ?_ | refine WP.B1 ?_ | refine WP.R1 ?_))
  refine RL.A1 T_ok rfl ?_
  refine RL.call (fi := []) (ca := []) rfl rfl rfl rfl (sortStable_c S2 v2 66 [.pointer (some ⟨b, 0, none⟩)] cfK (fun W => Blk W b 87 [.func (.func 47) #[] #[]]) ⟨fun W x y hW => cmpK_c W x y b hW, fun W W' hW hE => hW.ext hE hbS⟩ swoK m2 l hB hO2 hl) ?_
  rintro _ m3 ⟨rfl, hE3, l3, hO3, hP3, hS3⟩
  refine ⟨_, rfl, ?_⟩
  refine RL.N1 ?_; (with_reducible repeat (first | refine QN.B1 ?_ | refine QN.N1 ?_ | refine WP.S1 ?_ | refine WP.B1 ?_ | refine WP.R1 ?_))
  refine RL.A1 T_ok rfl ?_
  refine RL.N1 ?_; (with_reducible repeat (first | refine QN.B1 ?_ | refine QN.N1 ?_ | refine WP.S1 ?_ | refine WP.B1 ?_ | refine WP.R1 ?_))
  refine WP.ret ?_; (with_reducible repeat (first | refine QN.tr ?_ | refine QN.br ?_))
  refine QN.ret1 rfl rfl ⟨_, rfl, l3, hP3, hS3.imp (fun {x y} hxy => ?_), S2, hO3, ?_, hN2.2.trans' hE1⟩
  · rw [← Bool.not_eq_true, ltOf_cfK] at hxy; omega
  · exact (hE1.trans hN2.1 (by simp)).trans hE3 (fun k hk => .inr (by have := hN2.ge k hk; have := hE1.size; omega))
theorem csC_setK (a : List Clk) (y : Clk) (z : Nat) : ((a ++ [y]).flatMap cC).set (a.length * 2 + 1) (.int .u64 z) = (a ++ [{ y with k := z }]).flatMap cC := by
  rw [List.flatMap_append, List.set_append_right _ _ (by rw [csC_len]; omega), csC_len, List.flatMap_append]
  congr 1
  rw [show a.length * 2 + 1 - a.length * 2 = 1 by omega]
  simp [cC]
theorem minK (a b : Nat) : Value.int .u64 (if (b : Int) < (a : Int) then (b : Int) else (a : Int)) = .int .u64 (min a b : Nat) := congrArg _ (by split <;> omega)
theorem maxK (a b : Nat) : Value.int .u64 (if (b : Int) > (a : Int) then (b : Int) else (a : Int)) = .int .u64 (max a b : Nat) := congrArg _ (by split <;> omega)
theorem vclean_c (m : World) (v : Value) (l : List Clk) (h : Cs m [] v l) (hl : l.length < 100000000) : FnR Tryd.prog 24 [v] m fun r m' => VMade m r (vclean l) m' := by
  refine FnE.enter ⟨_, Tryd.func24, by kernel_rfl, by kernel_rfl⟩ Tryd.func24 rfl rfl ?_
  (with_reducible repeat (first | refine WP.S1 ?_ | refine WP.B1 ?_ | refine WP.R1 ?_))
  refine RL.A1 T_ok rfl ?_
  refine RL.N1 ?_; (with_reducible repeat (first | refine QN.B1 ?_ | refine QN.N1 ?_ | refine WP.S1 ?_ | refine WP.B1 ?_ | refine WP.R1 ?_))
  refine RL.A1 T_ok rfl ?_
  refine RL.N1 ?_; (with_reducible repeat (first | refine QN.B1 ?_ | refine QN.N1 ?_ | refine WP.S1 ?_ | refine WP.B1 ?_ | refine WP.R1 ?_))
  refine RL.A1 T_ok rfl ?_
  refine RL.call (fi := []) (ca := []) rfl rfl rfl rfl (by_c m v l h (by omega)) ?_
  rintro v1 m1 ⟨l', hP, hSo, hM⟩
  refine ⟨_, rfl, ?_⟩
  have hE1 := hM.ext
  have hR := hM.cs
  have hl' : l'.length = l.length := hP.length_eq
  obtain ⟨A, c, rfl, _, _⟩ := hR.shape
  clear hM
  refine RL.A1 T_ok rfl ?_
  refine RL.N1 ?_; (with_reducible repeat (first | refine QN.B1 ?_ | refine QN.N1 ?_ | refine WP.S1 ?_ | refine WP.B1 ?_ | refine WP.R1 ?_))
  refine (WP.loop (X := Nat × Value × List Nat × List Clk) (fun q => [(8, .slice A l'.length c), (9, .int .i64 l'.length), (3, q.2.1), (10, .int .i64 q.1)])
    (fun q m' => q.1 ≤ l'.length ∧ Ev.Own m' q.2.2.1 39 2 q.2.1 q.2.2.2.length (q.2.2.2.reverse.flatMap cC) ∧ New m1 q.2.2.1 m' ∧ VSw (l'.take q.1) q.2.2.2 ∧ ∀ y ∈ q.2.2.2, ∀ x ∈ l'.drop q.1, y.c ≤ x.c) (fun q => l'.length - q.1) (0, .slice none 0 0, [], [])
    (Sub.C1 rfl (Sub.C1 rfl (Sub.C1 rfl (Sub.C1 rfl Sub.nil)))) ⟨by simp, Own.empty _ _ _ _, ⟨Ext.refl _ _, FpNew.nil _ _⟩, VSw.nil, (fun _ hh => by cases hh)⟩ ?_)
  rintro ⟨i, ov, S, R⟩ m2 ⟨hi, hO, hN, hV, hle⟩
  simp only at hi hO hN hV hle
  (with_reducible repeat (first | refine WP.S1 ?_ | refine WP.B1 ?_ | refine WP.R1 ?_))
  refine RL.A1 T_ok rfl ?_
  refine RL.N1 ?_; (with_reducible repeat (first | refine QN.B1 ?_ | refine QN.N1 ?_ | refine WP.S1 ?_ | refine WP.B1 ?_ | refine WP.R1 ?_))
  refine WP.cond rfl (fun hc => ?_) (fun hc => ?_)
  · replace hc : i < l'.length := by have := of_decide_eq_true hc; simp only at this; omega
    obtain ⟨ad, rfl, hx⟩ := (hR.ext0 hN.1).cell i hc
    have htake : l'.take (i + 1) = l'.take i ++ [l'[i]] := List.take_succ_eq_append_getElem hc
    have hdrop := List.drop_eq_getElem_cons hc
    have hnext := hV.next (x := l'[i]) (fun y hy => hle y hy _ (by rw [hdrop]; exact zS ..))
    rw [← htake] at hnext
    have hle2 : ∀ y ∈ vsw R l'[i], ∀ x ∈ l'.drop (i + 1), y.c ≤ x.c := fun y hy x hx => by
      have h1 := hnext.2 y hy
      obtain ⟨j, hj, rfl⟩ := List.mem_iff_getElem.1 hx
      rw [List.length_drop] at hj
      rw [List.getElem_drop]
      have := List.pairwise_iff_getElem.1 hSo i (i + 1 + j) hc (by omega) (by omega)
      omega
    have hlR := hV.len
    rw [List.length_take, Nat.min_eq_left hi] at hlR
    generalize l'[i] = x at hx htake hnext hle2
    clear hle
    refine WP.skip ?_; (with_reducible repeat (first | refine QN.B1 ?_ | refine QN.N1 ?_ | refine WP.S1 ?_ | refine WP.B1 ?_ | refine WP.R1 ?_))
    refine RL.indexAddr (k := i) T_ok rfl rfl rfl rfl rfl rfl rfl hc rfl ?_
    refine RL.loadAgg T_ok (cC x) rfl rfl rfl hx rfl ?_
    refine RL.alloc T_ok rfl rfl (fun b m3 hb3 hC3 => ⟨_, rfl, ?_⟩)
    refine RL.storeAgg T_ok (b := b) (i := 0) (vs := cC x) (cs := [.int .u64 0, .int .u64 0]) hC3.blk rfl rfl rfl rfl rfl (by simp) (by simp [cC, Value.oneCell']) rfl ?_
    intro m4 hC4
    have hE4 : Ext m2 [] m4 := (hC3.new (by omega)).trans hC4.ext (fun q hq => .inr (by have h9 : q = b := (by simpa using hq); omega))
    have hB4 : Blk m4 b 39 (cC x) := hC4.blk
    have hbS : b ∉ S := fun hh => by have := hO.lt _ hh; omega
    have hbm : m1.heap.size ≤ b := by have := hN.1.size; omega
    have hO4 := hO.ext hE4 (by simp)
    have hN4 : New m1 S m4 := ⟨hN.1.trans hE4 (by simp), hN.2⟩
    clear hC3 hC4 hO hN hE4 hx
    refine RL.N1 ?_; (with_reducible repeat (first | refine QN.B1 ?_ | refine QN.N1 ?_))
    refine WP.S1 ?_
    refine WP.cut (X := Bool) (fun q => [(8, .slice (some ad) l'.length c), (9, .int .i64 l'.length), (3, ov), (10, .int .i64 i), (5, .pointer (some ⟨b, 0, none⟩)), (26, .bool q)]) (fun q m' => m' = m4 ∧ q = !x.right) ?_ ?_
    · refine WP.R1 ?_
      repeat (first | refine RL.pure T_ok 1 rfl ?_ | refine RL.load T_ok rfl rfl rfl (hB4.cell _ rfl) rfl ?_)
      by_cases h1 : x.c < 1
      · refine RL.eqv (v' := .bool true) (congrArg _ (decide_eq_true (by omega))) ?_
        repeat (first | refine RL.pure T_ok 1 rfl ?_ | refine RL.load T_ok rfl rfl rfl (hB4.cell _ rfl) rfl ?_)
        exact RL.N1 (QN.cutEnd true (Sub.C1 rfl (Sub.C1 rfl (Sub.C1 rfl (Sub.C1 rfl (Sub.C1 rfl (Sub.C1 rfl Sub.nil)))))) ⟨rfl, by rw [eq_comm, Bool.not_eq_true', ← Bool.not_eq_true, cright_iff]; omega⟩)
      · refine RL.eqv (v' := .bool false) (congrArg _ (decide_eq_false (by omega))) ?_
        repeat (first | refine RL.pure T_ok 1 rfl ?_ | refine RL.load T_ok rfl rfl rfl (hB4.cell _ rfl) rfl ?_)
        by_cases h2 : 9007199254740991 < x.c
        · refine RL.eqv (v' := .bool true) (congrArg _ (decide_eq_true (by omega))) ?_
          repeat (first | refine RL.pure T_ok 1 rfl ?_ | refine RL.load T_ok rfl rfl rfl (hB4.cell _ rfl) rfl ?_)
          exact RL.N1 (QN.cutEnd true (Sub.C1 rfl (Sub.C1 rfl (Sub.C1 rfl (Sub.C1 rfl (Sub.C1 rfl (Sub.C1 rfl Sub.nil)))))) ⟨rfl, by rw [eq_comm, Bool.not_eq_true', ← Bool.not_eq_true, cright_iff]; omega⟩)
        · refine RL.eqv (v' := .bool false) (congrArg _ (decide_eq_false (by omega))) ?_
          repeat (first | refine RL.pure T_ok 1 rfl ?_ | refine RL.load T_ok rfl rfl rfl (hB4.cell _ rfl) rfl ?_)
          refine RL.N1 (QN.cutEnd (decide (x.k < 1)) (Sub.C1 rfl (Sub.C1 rfl (Sub.C1 rfl (Sub.C1 rfl (Sub.C1 rfl (Sub.C1 ?_ Sub.nil)))))) ⟨rfl, ?_⟩)
          · show some (Value.bool (decide ((x.k : Int) < 1))) = _
            rw [show (decide ((x.k : Int) < 1)) = decide (x.k < 1) by rw [decide_eq_decide]; omega]
          · rw [Bool.eq_iff_iff, decide_eq_true_eq, Bool.not_eq_true', ← Bool.not_eq_true, cright_iff]; omega
    rintro q mc ⟨rfl, hq⟩
    refine WP.cond rfl (fun hqt => ?_) (fun hqf => ?_)
    · rw [hqt] at hq
      have hnr : ¬ x.right = true := by rw [eq_comm, Bool.not_eq_true'] at hq; rw [hq]; simp
      have hv : vsw R x = R := if_neg hnr
      rw [hv] at hnext hle2
      refine WP.exit ?_; (with_reducible repeat (first | refine QN.tx ?_ | refine QN.bx ?_ | refine QN.block_far rfl ?_ | refine QN.B1 ?_ | refine QN.N1 ?_)); (with_reducible repeat (first | refine WP.S1 ?_ | refine WP.B1 ?_ | refine WP.R1 ?_))
      refine RL.pure T_ok 1 rfl ?_
      refine RL.eqv (v' := .int .i64 ((i + 1 : Nat) : Int)) (congrArg _ (by rw [wrap_i64_in _ (by omega) (by omega)]; rfl)) ?_
      refine RL.A1 T_ok rfl ?_
      exact RL.N1 (QN.round (i + 1, ov, S, R) (Sub.C1 rfl (Sub.C1 rfl (Sub.C1 rfl (Sub.C1 rfl Sub.nil)))) ⟨by show i + 1 ≤ _; omega, hO4, hN4, hnext.1, hle2⟩ (by show _ - (i + 1) < _ - i; omega))
    rw [hqf] at hq
    have hr : x.right = true := by rw [eq_comm, Bool.not_eq_false'] at hq; exact hq
    have hv : vsw R x = vj R x.cut := if_pos hr
    rw [hv] at hnext hle2
    refine WP.skip ?_; (with_reducible repeat (first | refine QN.B1 ?_ | refine QN.N1 ?_ | refine WP.S1 ?_ | refine WP.B1 ?_ | refine WP.R1 ?_))
    refine RL.pure T_ok 1 rfl ?_
    refine RL.load T_ok rfl rfl rfl (hB4.cell 1 rfl) rfl ?_
    refine RL.pure T_ok 1 rfl ?_
    refine RL.eqv (v' := .int .u64 (min x.k 9007199254740991 : Nat)) (minK x.k 9007199254740991) ?_
    refine RL.pure T_ok 1 rfl ?_
    refine RL.store T_ok hB4 (i := 1) (v := .int .u64 (min x.k 9007199254740991 : Nat)) (by simp [cC]) rfl rfl rfl rfl rfl rfl ?_
    intro m5 hC5
    have hB5 : Blk m5 b 39 (cC x.cut) := hC5.blk
    have hE5 : Ext m1 [] m5 := hN4.1.trans hC5.ext (fun k hk => .inr (by have h9 : k = b := (by simpa using hk); omega))
    have hO5 := hO4.ext hC5.ext (fun k hk hh => hbS (by have h9 : k = b := (by simpa using hh); exact h9 ▸ hk))
    have hN5 : New m1 S m5 := ⟨hE5, hN4.2⟩
    clear hC5 hE5 hB4 hO4 hN4
    generalize x.cut = x at hnext hle2 hB5
    obtain ⟨AO, cO, rfl, _⟩ := hO5.shape
    refine RL.N1 ?_; (with_reducible repeat (first | refine QN.B1 ?_ | refine QN.N1 ?_ | refine WP.S1 ?_ | refine WP.B1 ?_ | refine WP.R1 ?_))
    cases R with
    | nil =>
      refine RL.pure T_ok 2 rfl ?_
      refine RL.pure T_ok 1 rfl ?_
      refine RL.eqv (v' := .int .i64 (-1)) (congrArg _ (by simp [wrap_i64])) ?_
      refine RL.A1 T_ok rfl ?_
      refine RL.N1 ?_; (with_reducible repeat (first | refine QN.B1 ?_ | refine QN.N1 ?_))
      refine WP.S1 ?_
      refine WP.drawQ (fun m' => m' = m5) [] (by kernel_rfl) rfl (by with_reducible repeat (first | exact PanicOk.body | refine PanicOk.then_ ?_ | refine PanicOk.block_ ?_)) (fun hQ => ?_)
      refine RH.pure T_ok hQ [0, 1] (by kernel_rfl) rfl ?_
      refine RH.eqv (v' := .bool false) (congrArg _ (by decide)) ?_
      refine RH.pure T_ok hQ [2, 3, 4, 5, 6, 7, 8, 9, 10, 11] (by kernel_rfl) rfl ?_
      refine RH.done (by kernel_rfl) (fun _ => ?_)
      (with_reducible repeat (first | refine QN.B1 ?_ | refine QN.N1 ?_))
      refine WP.condF rfl ?_
      refine WP.skip ?_
      (with_reducible repeat (first | refine QN.B1 ?_ | refine QN.N1 ?_))
      (with_reducible repeat (first | refine WP.S1 ?_ | refine WP.B1 ?_ | refine WP.R1 ?_))
      refine RL.A1 T_ok rfl ?_
      refine RL.loadAgg T_ok (cC x) rfl rfl rfl (fun j u hu => by rw [add_block]; exact hB5.cell _ (by simpa using hu)) rfl ?_
      refine RL.append1 T_ok [.tmp 59] hO5 (us := [cV x]) (cC x) rfl rfl rfl rfl rfl rfl rfl rfl rfl (by simp [cV, cC, Value.cells]) (by simp [cV, Value.cells]) (cC_one x) (by unfold maxLen; simp) (by show (_ + 1) * 16 ≤ _; simp) ?_
      intro v6 m6 S6 hO6 hE6 hF6
      refine ⟨_, rfl, ?_⟩
      have hN6 : New m1 S6 m6 := ⟨hN5.1.trans hE6 (fun k hk => .inr (hN5.ge k hk)), hN5.2.trans hF6 hN5.1.size⟩
      refine RL.A1 T_ok rfl ?_
      refine RL.N1 ?_; (with_reducible repeat (first | refine QN.B1 ?_ | refine QN.N1 ?_ | refine WP.S1 ?_ | refine WP.B1 ?_ | refine WP.R1 ?_))
      refine RL.pure T_ok 1 rfl ?_
      refine RL.eqv (v' := .int .i64 ((i + 1 : Nat) : Int)) (congrArg _ (by rw [wrap_i64_in _ (by omega) (by omega)]; rfl)) ?_
      refine RL.A1 T_ok rfl ?_
      refine RL.N1 (QN.round (i + 1, v6, S6, [x]) (Sub.C1 rfl (Sub.C1 rfl (Sub.C1 rfl (Sub.C1 rfl Sub.nil)))) ⟨by show i + 1 ≤ _; omega, ?_, hN6, hnext.1, hle2⟩ (by show _ - (i + 1) < _ - i; omega))
      simpa using hO6
    | cons y r =>
      have hrl : (y :: r).length = r.length + 1 := rfl
      have hR5 : Cs m5 [] (.slice AO (y :: r).length cO) (r.reverse ++ [y]) := by
        have := hO5.sl (M := []) (by simp)
        rw [List.reverse_cons] at this; exact this
      obtain ⟨ad5, rfl, hy⟩ := hR5.cell r.length (by simp)
      have hyy : (r.reverse ++ [y])[r.length]'(by simp) = y := by simp
      rw [hyy] at hy
      refine RL.pure T_ok 2 rfl ?_
      refine RL.pure T_ok 1 rfl ?_
      refine RL.eqv (v' := .int .i64 r.length) (congrArg _ (by show IntKind.i64.wrap (((r.length + 1 : Nat) : Int) - 1) = r.length; rw [wrap_i64_in _ (by omega) (by omega)]; omega)) ?_
      refine RL.A1 T_ok rfl ?_
      refine RL.N1 ?_; (with_reducible repeat (first | refine QN.B1 ?_ | refine QN.N1 ?_))
      refine WP.S1 ?_
      refine WP.drawQ (fun m' => m' = m5) [] (by kernel_rfl) rfl (by with_reducible repeat (first | exact PanicOk.body | refine PanicOk.then_ ?_ | refine PanicOk.block_ ?_)) (fun hQ => ?_)
      refine RH.pure T_ok hQ [0, 1] (by kernel_rfl) rfl ?_
      refine RH.eqv (v' := .bool true) (congrArg _ (decide_eq_true (by omega))) ?_
      refine RH.pure T_ok hQ [2, 3, 4] (by kernel_rfl) rfl ?_
      refine RH.indexAddr T_ok hQ 5 (k := r.length) rfl (by kernel_rfl) rfl rfl rfl rfl rfl rfl rfl (by omega) rfl ?_
      refine RH.pure T_ok hQ [6] (by kernel_rfl) rfl ?_
      refine RH.load T_ok hQ 7 (fun m' hm' => by rw [hm']; exact hy 0 _ rfl) rfl (by kernel_rfl) rfl rfl rfl rfl ?_
      refine RH.pure T_ok hQ [8] (by kernel_rfl) rfl ?_
      refine RH.load T_ok hQ 9 (fun m' hm' => by rw [hm']; exact hB5.cell 0 rfl) rfl (by kernel_rfl) rfl rfl rfl rfl ?_
      refine RH.pure T_ok hQ [10] (by kernel_rfl) rfl ?_
      by_cases h1 : y.c = x.c
      · have hvj : vj (y :: r) x = { y with k := max y.k x.k } :: r := by rw [vj_cons, if_pos h1]
        rw [hvj] at hnext hle2
        refine RH.eqv (v' := .bool true) (congrArg _ (by rw [deq]; exact decide_eq_true h1)) ?_
        refine RH.pure T_ok hQ [11] (by kernel_rfl) rfl ?_
        refine RH.done (by kernel_rfl) (fun _ => ?_)
        (with_reducible repeat (first | refine QN.B1 ?_ | refine QN.N1 ?_))
        refine WP.condT rfl ?_
        have hO8 : Ev.Own m5 S 39 2 (.slice (some ad5) (y :: r).length cO) (y :: r).length ((r.reverse ++ [y]).flatMap cC) := by
          have := hO5; rw [List.reverse_cons] at this; exact this
        obtain ⟨g, cap, cur, hv8, hB8, rfl, hj8, hset⟩ := hO8.putN (j := r.length * 2 + 1) (by rw [hrl]; omega)
        injection hv8 with hv8 hv8'
        injection hv8 with hv8
        subst hv8
        refine WP.S1 ?_
        refine WP.drawQ (fun m' => m' = m5) [12] (by kernel_rfl) rfl (by with_reducible repeat (first | exact PanicOk.body | refine PanicOk.then_ ?_ | refine PanicOk.block_ ?_)) (fun hQ => ?_)
        refine RH.pure T_ok hQ [0, 1, 2, 3] (by kernel_rfl) rfl ?_
        refine RH.indexAddr T_ok hQ 4 (k := r.length) rfl (by kernel_rfl) rfl rfl rfl rfl rfl rfl rfl (by omega) rfl ?_
        refine RH.pure T_ok hQ [5] (by kernel_rfl) rfl ?_
        refine RH.load T_ok hQ 6 (fun m' hm' => by rw [hm']; exact hy 1 _ rfl) rfl (by kernel_rfl) rfl rfl rfl rfl ?_
        refine RH.pure T_ok hQ [7] (by kernel_rfl) rfl ?_
        refine RH.load T_ok hQ 8 (fun m' hm' => by rw [hm']; exact hB5.cell 1 rfl) rfl (by kernel_rfl) rfl rfl rfl rfl ?_
        refine RH.pure T_ok hQ [9] (by kernel_rfl) rfl ?_
        refine RH.eqv (v' := .int .u64 (max y.k x.k : Nat)) (maxK y.k x.k) ?_
        refine RH.indexAddr T_ok hQ 10 (k := r.length) rfl (by kernel_rfl) rfl rfl rfl rfl rfl rfl rfl (by omega) rfl ?_
        refine RH.eqv (v' := .pointer (some ⟨g, r.length * 2, none⟩)) (congrArg (fun q => Value.pointer (some q)) (by rw [add_block, Nat.zero_add])) ?_
        refine RH.pure T_ok hQ [11] (by kernel_rfl) rfl ?_
        refine RH.only 12 rfl (by kernel_rfl) (fun _ => ?_)
        refine RL.store T_ok hB8 (i := r.length * 2 + 1) (v := .int .u64 (max y.k x.k : Nat)) hj8 rfl rfl rfl rfl rfl rfl ?_
        intro m9 hC9
        have hO9 := hset m9 _ hC9
        rw [show r.length * 2 + 1 = r.reverse.length * 2 + 1 by rw [List.length_reverse], csC_setK, ← List.reverse_cons] at hO9
        have hN9 : New m1 [g] m9 := ⟨hN5.1.trans hC9.ext (fun k hk => .inr (hN5.ge k hk)), hN5.2⟩
        refine RL.N1 (RF.cont (by kernel_rfl) ?_)
        refine RF.done (by kernel_rfl) ?_
        (with_reducible repeat (first | refine QN.B1 ?_ | refine QN.N1 ?_))
        refine WP.exit ?_; (with_reducible repeat (first | refine QN.tx ?_ | refine QN.bx ?_ | refine QN.block_far rfl ?_ | refine QN.B1 ?_ | refine QN.N1 ?_)); (with_reducible repeat (first | refine WP.S1 ?_ | refine WP.B1 ?_ | refine WP.R1 ?_))
        refine RL.pure T_ok 1 rfl ?_
        refine RL.eqv (v' := .int .i64 ((i + 1 : Nat) : Int)) (congrArg _ (by rw [wrap_i64_in _ (by omega) (by omega)]; rfl)) ?_
        refine RL.A1 T_ok rfl ?_
        exact RL.N1 (QN.round (i + 1, _, [g], { y with k := max y.k x.k } :: r) (Sub.C1 rfl (Sub.C1 rfl (Sub.C1 rfl (Sub.C1 rfl Sub.nil)))) ⟨by show i + 1 ≤ _; omega, hO9, hN9, hnext.1, hle2⟩ (by show _ - (i + 1) < _ - i; omega))
      · have hvj : vj (y :: r) x = x :: y :: r := by rw [vj_cons, if_neg h1]
        rw [hvj] at hnext hle2
        refine RH.eqv (v' := .bool false) (congrArg _ (by rw [deq]; exact decide_eq_false h1)) ?_
        refine RH.pure T_ok hQ [11] (by kernel_rfl) rfl ?_
        refine RH.done (by kernel_rfl) (fun _ => ?_)
        (with_reducible repeat (first | refine QN.B1 ?_ | refine QN.N1 ?_))
        refine WP.condF rfl ?_
        refine WP.skip ?_
        (with_reducible repeat (first | refine QN.B1 ?_ | refine QN.N1 ?_))
        (with_reducible repeat (first | refine WP.S1 ?_ | refine WP.B1 ?_ | refine WP.R1 ?_))
        refine RL.A1 T_ok rfl ?_
        refine RL.loadAgg T_ok (cC x) rfl rfl rfl (fun j u hu => by rw [add_block]; exact hB5.cell _ (by simpa using hu)) rfl ?_
        refine RL.append1 T_ok [.tmp 59] hO5 (us := [cV x]) (cC x) rfl rfl rfl rfl rfl rfl rfl rfl rfl (by simp [cV, cC, Value.cells]) (by simp [cV, Value.cells]) (cC_one x) (by unfold maxLen; have := hrl; omega) (by show (_ + 1) * 16 ≤ _; have := hrl; omega) ?_
        intro v6 m6 S6 hO6 hE6 hF6
        refine ⟨_, rfl, ?_⟩
        have hN6 : New m1 S6 m6 := ⟨hN5.1.trans hE6 (fun k hk => .inr (hN5.ge k hk)), hN5.2.trans hF6 hN5.1.size⟩
        refine RL.A1 T_ok rfl ?_
        refine RL.N1 ?_; (with_reducible repeat (first | refine QN.B1 ?_ | refine QN.N1 ?_ | refine WP.S1 ?_ | refine WP.B1 ?_ | refine WP.R1 ?_))
        refine RL.pure T_ok 1 rfl ?_
        refine RL.eqv (v' := .int .i64 ((i + 1 : Nat) : Int)) (congrArg _ (by rw [wrap_i64_in _ (by omega) (by omega)]; rfl)) ?_
        refine RL.A1 T_ok rfl ?_
        refine RL.N1 (QN.round (i + 1, v6, S6, x :: y :: r) (Sub.C1 rfl (Sub.C1 rfl (Sub.C1 rfl (Sub.C1 rfl Sub.nil)))) ⟨by show i + 1 ≤ _; omega, ?_, hN6, hnext.1, hle2⟩ (by show _ - (i + 1) < _ - i; omega))
        show Ev.Own m6 S6 39 2 v6 ((y :: r).length + 1) ((x :: y :: r).reverse.flatMap cC)
        rw [List.reverse_cons, ← csC_app]
        simpa using hO6
  · replace hc : i = l'.length := by have := of_decide_eq_false hc; simp only at this; omega
    subst hc
    rw [List.take_length] at hV
    have he := hV.done hP
    refine WP.exit ?_; (with_reducible repeat (first | refine QN.tx ?_ | refine QN.bx ?_ | refine QN.block_far rfl ?_ | refine QN.B1 ?_ | refine QN.N1 ?_)); (with_reducible repeat (first | refine WP.S1 ?_ | refine WP.B1 ?_ | refine WP.R1 ?_))
    refine RL.A1 T_ok rfl ?_
    refine RL.N1 ?_; (with_reducible repeat (first | refine QN.B1 ?_ | refine QN.N1 ?_ | refine WP.S1 ?_ | refine WP.B1 ?_ | refine WP.R1 ?_))
    refine WP.ret ?_; (with_reducible repeat (first | refine QN.tr ?_ | refine QN.br ?_))
    exact QN.ret1 rfl rfl ⟨_, rfl, S, by rw [← he, List.length_reverse]; exact hO, hE1.trans hN.1 (by simp), hN.2.trans' hE1⟩
end Go.Proofs.YtmjpcaiehfimgaaDoor
end
section
namespace Go.Proofs.YtmjpcaiehfimgaaDoor
open Go.RowKit Go.Ev Go.Ids
theorem cmpN_neg (a b : Nat) : cmpN a b < 0 ↔ a < b := by unfold cmpN; split; omega; split <;> omega
theorem cmpN_zero (a b : Nat) : cmpN a b = 0 ↔ a = b := by unfold cmpN; split; omega; split <;> omega
instance : Inhabited Rng := ⟨⟨0, 0, 0⟩⟩
end Go.Proofs.YtmjpcaiehfimgaaDoor
end
section
namespace Go.Proofs.YtmjpcaiehfimgaaDoor
open Go.RowKit Go.Ev Go.Ids
end Go.Proofs.YtmjpcaiehfimgaaDoor
end
section
namespace Go.Proofs.YtmjpcaiehfimgaaDoor
open Go.RowKit Go.Ev Go.Ids
end Go.Proofs.YtmjpcaiehfimgaaDoor
end
section
namespace Go.Proofs.YtmjpcaiehfimgaaDoor
open Go.RowKit Go.Ev Go.Ids
end Go.Proofs.YtmjpcaiehfimgaaDoor
end
section
namespace Go.Proofs.YtmjpcaiehfimgaaDoor
open Go.RowKit Go.Ev Go.Ids
theorem dle' (a b : Nat) : decide ((a : Int) ≤ (b : Int)) = decide (a ≤ b) := by rw [decide_eq_decide]; omega
def Made (m : World) (r : Value) (l : List Rng) (m' : World) : Prop := ∃ S', Ev.Own m' S' 90 3 r l.length (l.flatMap rC) ∧ New m S' m'
theorem Made.ext {m m' : World} {r : Value} {l : List Rng} (h : Made m r l m') : Ext m [] m' := by obtain ⟨_, _, h⟩ := h; exact h.1
theorem Made.rs {m m' : World} {r : Value} {l : List Rng} (h : Made m r l m') : Rs m' [] r l := by obtain ⟨_, h, _⟩ := h; exact h.sl (by simp)
end Go.Proofs.YtmjpcaiehfimgaaDoor
end
section
namespace Go.Ev
open Go.RowKit
end Go.Ev
namespace Go.Proofs.YtmjpcaiehfimgaaDoor
open Go.RowKit Go.Ev Go.Ids
end Go.Proofs.YtmjpcaiehfimgaaDoor
end
section
namespace Go.Proofs.YtmjpcaiehfimgaaDoor
open Go.RowKit Go.Ev Go.Ids
end Go.Proofs.YtmjpcaiehfimgaaDoor
end
section
namespace Go.Proofs.YtmjpcaiehfimgaaDoor
open Go.RowKit Go.Ev Go.Ids
end Go.Proofs.YtmjpcaiehfimgaaDoor
end
section
namespace Go.Proofs.YtmjpcaiehfimgaaDoor
open Go.RowKit Go.Ev Go.Ids
structure RV (l : List Clk) (i : Nat) (L : List Clk) : Prop where
  canon : VCanon L
  told : ∀ c, vat L c = if ∃ x ∈ l.take i, x.c = c then vat l c else 0
  len : L.length ≤ i
theorem take_ex (l : List Clk) (i : Nat) (h : i < l.length) (c : Nat) : (∃ x ∈ l.take (i + 1), x.c = c) ↔ (∃ x ∈ l.take i, x.c = c) ∨ l[i].c = c := by
  rw [List.take_succ_eq_append_getElem h]
  constructor
  · rintro ⟨x, hx, h1⟩
    rcases List.mem_append.1 hx with hx | hx
    · exact .inl ⟨x, hx, h1⟩
    · have : x = l[i] := by simpa using hx
      subst this; exact .inr h1
  · rintro (⟨x, hx, h1⟩ | h1)
    · exact ⟨x, List.mem_append_left _ hx, h1⟩
    · exact ⟨l[i], List.mem_append_right _ (by simp), h1⟩
theorem RV.skip {l : List Clk} {i : Nat} {L : List Clk} (h : RV l i L) (hi : i < l.length) (hs : vat l l[i].c = 0 ∨ ∃ y ∈ L, y.c = l[i].c) : RV l (i + 1) L := by
  refine ⟨h.canon, fun c => ?_, by have := h.len; omega⟩
  rw [h.told]
  by_cases h1 : ∃ x ∈ l.take i, x.c = c
  · rw [if_pos h1, if_pos ((take_ex l i hi c).2 (.inl h1))]
  · rw [if_neg h1]
    by_cases h2 : l[i].c = c
    · rw [if_pos ((take_ex l i hi c).2 (.inr h2))]
      rcases hs with hs | ⟨y, hy, hs⟩
      · rw [← h2, hs]
      · have h3 := h.canon.at_mem hy
        rw [hs, h2, h.told, if_neg h1] at h3
        have := (h.canon.1 y hy).2.2.1; omega
    · rw [if_neg (fun hh => ((take_ex l i hi c).1 hh).elim h1 h2)]
theorem RV.put {l : List Clk} {i at_ : Nat} {L : List Clk} (h : RV l i L) (hi : i < l.length) (h0 : vat l l[i].c ≠ 0) (ha : at_ ≤ L.length) (h1 : ∀ j (hj : j < L.length), j < at_ → L[j].c < l[i].c) (h2 : ∀ j (hj : j < L.length), at_ ≤ j → l[i].c < L[j].c) :
    RV l (i + 1) (L.take at_ ++ ⟨l[i].c, vat l l[i].c⟩ :: L.drop at_) := by
  generalize hx : l[i].c = c0 at *
  have hok : Clk.ok ⟨c0, vat l c0⟩ := by
    obtain ⟨x, _, _, g1, g2, _⟩ := vat_mem h0
    exact ⟨g1, g2, by simp only; omega, vat_le l c0⟩
  have f1 : ∀ a ∈ L.take at_, a.c < c0 := fun a hm => by
    obtain ⟨j, hj, rfl⟩ := List.mem_iff_getElem.1 hm
    rw [List.getElem_take]
    rw [List.length_take] at hj
    exact h1 j (by omega) (by omega)
  have f2 : ∀ a ∈ L.drop at_, c0 < a.c := fun a hm => by
    obtain ⟨j, hj, rfl⟩ := List.mem_iff_getElem.1 hm
    rw [List.length_drop] at hj
    rw [List.getElem_drop]
    exact h2 _ (by omega) (by omega)
  have hsplit : (L.take at_ ++ L.drop at_).Pairwise fun x y => x.c < y.c := by rw [List.take_append_drop]; exact h.canon.2
  rw [List.pairwise_append] at hsplit
  have hmem : ∀ a ∈ L.take at_ ++ L.drop at_, a ∈ L := fun a hm => by rwa [List.take_append_drop] at hm
  refine ⟨⟨fun y hy => ?_, ?_⟩, fun c => ?_, ?_⟩
  · rcases List.mem_append.1 hy with hy | hy
    · exact h.canon.1 y (List.mem_of_mem_take hy)
    · rcases List.mem_cons.1 hy with rfl | hy
      · exact hok
      · exact h.canon.1 y (List.mem_of_mem_drop hy)
  · rw [List.pairwise_append]
    refine ⟨hsplit.1, List.pairwise_cons.2 ⟨f2, hsplit.2.1⟩, fun a hm b hb => ?_⟩
    rcases List.mem_cons.1 hb with rfl | hb
    · exact f1 a hm
    · exact hsplit.2.2 a hm b hb
  · have e : vat (L.take at_ ++ ⟨c0, vat l c0⟩ :: L.drop at_) c = max (vat L c) (Clk.at ⟨c0, vat l c0⟩ c) := by
      have := vat_append (L.take at_) (L.drop at_) c
      rw [List.take_append_drop] at this
      rw [vat_append, this]
      simp only [vat]; omega
    rw [e, hok.at, h.told]
    simp only
    by_cases g : c0 = c
    · subst g
      rw [if_pos rfl, if_pos ((take_ex l i hi c0).2 (.inr hx))]
      split <;> omega
    · rw [if_neg g]
      by_cases g1 : ∃ x ∈ l.take i, x.c = c
      · rw [if_pos g1, if_pos ((take_ex l i hi c).2 (.inl g1))]; omega
      · rw [if_neg g1, if_neg (fun hh => ((take_ex l i hi c).1 hh).elim g1 (fun g2 => g (by rw [← hx]; exact g2)))]; rfl
  · have := h.len
    simp; omega
theorem RV.done {l L : List Clk} (h : RV l l.length L) : L = vclean l := vclean_eq h.canon fun c => by
  rw [h.told, List.take_length]
  by_cases g : ∃ x ∈ l, x.c = c
  · rw [if_pos g]
  · rw [if_neg g]
    by_cases h0 : vat l c = 0
    · exact h0.symm
    · obtain ⟨x, hx, h1, _⟩ := vat_mem h0
      exact absurd ⟨x, hx, h1⟩ g
end Go.Proofs.YtmjpcaiehfimgaaDoor
end
section
namespace Go.Proofs.YtmjpcaiehfimgaaDoor
open Go.RowKit Go.Ev Go.Ids
end Go.Proofs.YtmjpcaiehfimgaaDoor
end
section
namespace Go.Proofs.YtmjpcaiehfimgaaDoor
open Go.ChangeShapes Go.WideShapes Go.ChangeAt Go.RowKit Go.Ev Go.Ids
end Go.Proofs.YtmjpcaiehfimgaaDoor
end
section
namespace Go.Proofs.YtmjpcaiehfimgaaDoor
open Go.RowKit Go.Ev Go.Ids
structure RdI (At : World → List Nat → Nat → List UInt8 → Int → Prop) (tot : List Clk × List UInt8 × Int) (m : World) (M : List Nat) (b n last : Nat) (ov : Value) (S : List Nat) (out : List Clk) (l : List UInt8) (e : Int) (m' : World) : Prop where
  rest : vrdL n last out (l, e) = tot
  room : out.length + n ≤ 16384
  l64 : last < 18446744073709551616
  lmax : e = 0 → last ≤ 9007199254740991
  own : Ev.Own m' S 39 2 ov out.length (out.flatMap cC)
  at_ : At m' (S ++ M) b l e
  ext : Ext m [b] m'
  fp : FpNew m [] S
def VRPost (At : World → List Nat → Nat → List UInt8 → Int → Prop) (m : World) (M : List Nat) (b : Nat) (t : List Clk × List UInt8 × Int) (r : Value) (m' : World) : Prop :=
  ∃ S', Ev.Own m' S' 39 2 r t.1.length (t.1.flatMap cC) ∧ At m' (S' ++ M) b t.2.1 t.2.2 ∧ Ext m [b] m' ∧ FpNew m [] S'
set_option maxRecDepth 10000 in
set_option maxHeartbeats 1000000 in
theorem vread_c (m : World) (M : List Nat) (b : Nat) (l : List UInt8) (e : Int) (h : RAt m M b l e) (hbM : b ∈ M) :
    FnR Tryd.prog 43 [.pointer (some ⟨b, 0, none⟩)] m fun r m' => VRPost RAt m M b (vrd (l, e)) r m' := by
  have hblt := h.lt
  refine FnE.enter ⟨_, Tryd.func43, by kernel_rfl, by kernel_rfl⟩ Tryd.func43 rfl rfl ?_
  (with_reducible repeat (first | refine WP.S1 ?_ | refine WP.B1 ?_ | refine WP.R1 ?_))
  refine RL.A1 T_ok rfl ?_
  refine RL.N1 ?_; (with_reducible repeat (first | refine QN.B1 ?_ | refine QN.N1 ?_ | refine WP.S1 ?_ | refine WP.B1 ?_ | refine WP.R1 ?_))
  have hr0 : gR 0 e l (rdU 16384 0 0 l) = rdN 16384 (l, e) := rfl
  have hle0 := rdN_le 16384 (l, e)
  have hvrd : vrd (l, e) = (if (vrdL (rdN 16384 (l, e)).1 0 [] (rdN 16384 (l, e)).2).2.2 = 0 then (vrdL (rdN 16384 (l, e)).1 0 [] (rdN 16384 (l, e)).2).1 else [], (vrdL (rdN 16384 (l, e)).1 0 [] (rdN 16384 (l, e)).2).2) := rfl
  rw [hvrd]
  generalize rdN 16384 (l, e) = r0 at hr0 hle0 ⊢
  obtain ⟨n0, l0, e0⟩ := r0
  simp only at hle0 ⊢
  clear hvrd
  obtain ⟨tot, htot⟩ : ∃ tot, vrdL n0 0 [] (l0, e0) = tot := ⟨_, rfl⟩
  rw [htot]
  refine RL.A1 T_ok rfl ?_
  refine RL.N1 ?_; (with_reducible repeat (first | refine QN.B1 ?_ | refine QN.N1 ?_ | refine WP.S1 ?_ | refine WP.B1 ?_ | refine WP.R1 ?_))
  refine RL.A1 T_ok rfl ?_
  refine RL.N1 ?_; (with_reducible repeat (first | refine QN.B1 ?_ | refine QN.N1 ?_))
  refine WP.cut (X := Value × List Nat) (fun q => [(0, .pointer (some ⟨b, 0, none⟩)), (3, q.1)])
    (fun q m' => Ev.Own m' q.2 39 2 q.1 tot.1.length (tot.1.flatMap cC) ∧ RAt m' (q.2 ++ M) b tot.2.1 tot.2.2 ∧ Ext m [b] m' ∧ FpNew m [] q.2) ?_ ?_
  · (with_reducible repeat (first | refine WP.S1 ?_ | refine WP.B1 ?_ | refine WP.R1 ?_))
    refine RL.A1 T_ok rfl ?_
    refine RL.call (fi := []) (ca := []) rfl rfl rfl rfl (ruint_c m M b l e h hbM 16384) ?_
    rintro _ m1 ⟨rfl, hR1, hE1⟩
    refine ⟨_, rfl, ?_⟩
    rw [hr0] at hR1 ⊢
    simp only at hR1 ⊢
    refine RL.A1 T_ok rfl ?_
    refine RL.N1 ?_; (with_reducible repeat (first | refine QN.B1 ?_ | refine QN.N1 ?_))
    refine WP.B1 ?_
    refine (WP.loop (X := Nat × Nat × Value × List Nat × List Clk × List UInt8 × Int) (fun q => [(0, .pointer (some ⟨b, 0, none⟩)), (3, q.2.2.1), (4, .int .u64 q.2.1), (5, .int .u64 q.1)])
      (fun q m' => RdI RAt tot m M b q.1 q.2.1 q.2.2.1 q.2.2.2.1 q.2.2.2.2.1 q.2.2.2.2.2.1 q.2.2.2.2.2.2 m') (fun q => q.1) (n0, 0, .slice none 0 0, [], [], l0, e0)
      (Sub.C1 rfl (Sub.C1 rfl (Sub.C1 rfl (Sub.C1 rfl Sub.nil)))) ⟨htot, by show 0 + n0 ≤ 16384; omega, by show 0 < 18446744073709551616; omega, (fun _ => by show 0 ≤ _; omega), Own.empty _ _ _ _, hR1, hE1, FpNew.nil _ _⟩ ?_)
    rintro ⟨n1, last, ov, S, out, l1, e1⟩ m2 hI
    simp only at hI
    obtain ⟨hrest, hroom, hl64, hlmax, hO, hR, hE, hF⟩ := hI
    have hbS : b ∉ S := fun hh => by
      rcases hF b hh with h9 | h9
      · cases h9
      · omega
    have hbSM : b ∈ S ++ M := List.mem_append_right _ hbM
    (with_reducible repeat (first | refine WP.S1 ?_ | refine WP.B1 ?_ | refine WP.R1 ?_))
    refine RL.pure T_ok 2 rfl ?_
    by_cases hn : n1 = 0
    · subst hn
      refine RL.eqv (v' := .bool false) (congrArg _ (by simp)) ?_
      refine RL.A1 T_ok rfl ?_
      refine RL.N1 ?_; (with_reducible repeat (first | refine QN.B1 ?_ | refine QN.N1 ?_))
      refine WP.condF rfl ?_
      refine WP.exit ?_
      (with_reducible repeat (first | refine QN.tx ?_ | refine QN.bx ?_ | refine QN.B1 ?_))
      have ht : tot = (out, l1, e1) := hrest.symm
      subst ht
      exact QN.cutEnd (ov, S) (Sub.C1 rfl (Sub.C1 rfl Sub.nil)) ⟨hO, hR, hE, hF⟩
    obtain ⟨n, rfl⟩ : ∃ n, n1 = n + 1 := ⟨n1 - 1, by omega⟩
    refine RL.eqv (v' := .bool true) (congrArg _ (decide_eq_true (by simp only; omega))) ?_
    refine RL.A1 T_ok rfl ?_
    refine RL.call (fi := []) (ca := []) rfl rfl rfl rfl (err_c m2 (S ++ M) b _ _ hR) ?_
    rintro _ mE ⟨rfl, hmE⟩
    subst hmE
    refine ⟨_, rfl, ?_⟩
    refine RL.pure T_ok 1 rfl ?_
    by_cases he : e1 = 0
    rotate_left
    · refine RL.eqv (v' := .bool false) (congrArg _ (by rw [beq_eq_false_iff_ne]; exact he)) ?_
      refine RL.A1 T_ok rfl ?_
      refine RL.N1 ?_; (with_reducible repeat (first | refine QN.B1 ?_ | refine QN.N1 ?_))
      refine WP.condF rfl ?_
      refine WP.exit ?_
      (with_reducible repeat (first | refine QN.tx ?_ | refine QN.bx ?_ | refine QN.B1 ?_))
      have ht : tot = (out, l1, e1) := by rw [← hrest]; exact vrdL_off he
      subst ht
      exact QN.cutEnd (ov, S) (Sub.C1 rfl (Sub.C1 rfl Sub.nil)) ⟨hO, hR, hE, hF⟩
    subst he
    rw [vrdL_step rfl] at hrest
    have hlm := hlmax rfl
    refine RL.eqv (v' := .bool true) (congrArg _ (by rfl)) ?_
    refine RL.A1 T_ok rfl ?_
    refine RL.N1 ?_; (with_reducible repeat (first | refine QN.B1 ?_ | refine QN.N1 ?_))
    refine WP.condT rfl ?_
    refine WP.skip ?_; (with_reducible repeat (first | refine QN.B1 ?_ | refine QN.N1 ?_ | refine WP.S1 ?_ | refine WP.B1 ?_ | refine WP.R1 ?_))
    refine RL.A1 T_ok rfl ?_
    refine RL.call (fi := []) (ca := []) rfl rfl rfl rfl (ruint_c mE (S ++ M) b l1 0 hR hbSM 18446744073709551615) ?_
    rintro _ m3 ⟨rfl, hR3, hE3⟩
    refine ⟨_, rfl, ?_⟩
    have hr1 : gR 0 (0 : Int) l1 (rdU 18446744073709551615 0 0 l1) = rdN 18446744073709551615 (l1, 0) := rfl
    have hm1 := rdN_le 18446744073709551615 (l1, 0)
    rw [hr1] at hR3 ⊢
    generalize rdN 18446744073709551615 (l1, (0 : Int)) = r1 at hrest hR3 hm1 ⊢
    obtain ⟨more, l3, e3⟩ := r1
    simp only at hrest hR3 hm1 ⊢
    have hO3 := hO.ext hE3 (fun k hk hh => hbS (by have h9 : k = b := (by simpa using hh); exact h9 ▸ hk))
    replace hE3 := hE.trans hE3 (fun k hk => .inl hk)
    clear hO hR hE
    refine RL.A1 T_ok rfl ?_
    refine RL.N1 ?_; (with_reducible repeat (first | refine QN.B1 ?_ | refine QN.N1 ?_))
    refine WP.cut (X := Unit) (fun _ => [(0, .pointer (some ⟨b, 0, none⟩)), (3, ov), (4, .int .u64 last), (5, .int .u64 ((n + 1 : Nat) : Int)), (6, .int .u64 more)]) (fun _ m' => RAt m' (S ++ M) b (badIf (wrongStep last more) (l3, e3)).1 (badIf (wrongStep last more) (l3, e3)).2 ∧ Ext m3 [b] m') ?_ ?_
    · refine WP.cut (X := Bool) (fun q => [(0, .pointer (some ⟨b, 0, none⟩)), (3, ov), (4, .int .u64 last), (5, .int .u64 ((n + 1 : Nat) : Int)), (6, .int .u64 more), (33, .bool q)]) (fun q m' => m' = m3 ∧ q = (decide (e3 = 0) && wrongStep last more)) ?_ ?_
      · refine WP.R1 ?_
        refine RL.A1 T_ok rfl ?_
        refine RL.call (fi := []) (ca := []) rfl rfl rfl rfl (err_c m3 (S ++ M) b _ _ hR3) ?_
        rintro _ mE ⟨rfl, hmE⟩
        subst hmE
        refine ⟨_, rfl, ?_⟩
        refine RL.pure T_ok 1 rfl ?_
        by_cases he3 : e3 = 0
        rotate_left
        · refine RL.eqv (v' := .bool false) (congrArg _ (by rw [beq_eq_false_iff_ne]; exact he3)) ?_
          refine RL.A1 T_ok rfl ?_
          exact RL.N1 (QN.cutEnd false (Sub.C1 rfl (Sub.C1 rfl (Sub.C1 rfl (Sub.C1 rfl (Sub.C1 rfl (Sub.C1 rfl Sub.nil)))))) ⟨rfl, by simp [he3]⟩)
        refine RL.eqv (v' := .bool true) (congrArg _ (by rw [beq_iff_eq]; exact he3)) ?_
        refine RL.pure T_ok 3 rfl ?_
        by_cases hmz : more = 0
        · refine RL.eqv (v' := .bool true) (congrArg _ (by rw [hmz]; rfl)) ?_
          refine RL.A1 T_ok rfl ?_
          exact RL.N1 (QN.cutEnd true (Sub.C1 rfl (Sub.C1 rfl (Sub.C1 rfl (Sub.C1 rfl (Sub.C1 rfl (Sub.C1 rfl Sub.nil)))))) ⟨rfl, by simp [he3, wrongStep, hmz]⟩)
        refine RL.eqv (v' := .bool false) (congrArg _ (by rw [beq_eq_false_iff_ne]; omega)) ?_
        refine RL.pure T_ok 4 rfl ?_
        refine RL.eqv (v' := .int .u64 ((9007199254740991 - last : Nat) : Int)) (congrArg _ (by rw [wrap_u64_in _ (by omega) (by omega)]; omega)) ?_
        refine RL.pure T_ok 1 rfl ?_
        refine RL.eqv (v' := .bool (decide (9007199254740991 - last < more))) (congrArg _ (by rw [decide_eq_decide]; omega)) ?_
        refine RL.A1 T_ok rfl ?_
        exact RL.N1 (QN.cutEnd (decide (9007199254740991 - last < more)) (Sub.C1 rfl (Sub.C1 rfl (Sub.C1 rfl (Sub.C1 rfl (Sub.C1 rfl (Sub.C1 rfl Sub.nil)))))) ⟨rfl, by simp [he3, wrongStep, hmz]⟩)
      rintro q mq ⟨rfl, hq⟩
      refine WP.cond rfl (fun hp => ?_) (fun hp => ?_)
      · rw [hp] at hq
        have hq2 := hq.symm
        rw [Bool.and_eq_true, decide_eq_true_eq] at hq2
        rw [badIf_yes (s := (l3, e3)) ⟨hq2.1, hq2.2⟩]
        (with_reducible repeat (first | refine WP.S1 ?_ | refine WP.B1 ?_ | refine WP.R1 ?_))
        refine RL.A1 T_ok rfl ?_
        refine RL.call (fi := []) (ca := []) rfl rfl rfl rfl (bad_c mq (S ++ M) b l3 e3 11 hR3 hbSM) ?_
        rintro _ m4 ⟨rfl, hR4, hE4⟩
        refine ⟨_, rfl, ?_⟩
        rw [if_pos hq2.1] at hR4
        exact RL.N1 (QN.cutEnd () (Sub.C1 rfl (Sub.C1 rfl (Sub.C1 rfl (Sub.C1 rfl (Sub.C1 rfl Sub.nil))))) ⟨hR4, hE4⟩)
      · rw [hp] at hq
        rw [badIf_no (s := (l3, e3)) (fun hh => by rw [hh.2, decide_eq_true hh.1] at hq; cases hq)]
        refine WP.skip ?_
        exact QN.cutEnd () (Sub.C1 rfl (Sub.C1 rfl (Sub.C1 rfl (Sub.C1 rfl (Sub.C1 rfl Sub.nil))))) ⟨hR3, Ext.refl _ _⟩
    rintro _ m4 ⟨hR4, hE4⟩
    have hok := @badIf_ok (wrongStep last more) (l3, e3)
    have hO4 := hO3.ext hE4 (fun k hk hh => hbS (by have h9 : k = b := (by simpa using hh); exact h9 ▸ hk))
    replace hE4 := hE3.trans hE4 (fun k hk => .inl hk)
    clear hR3 hO3 hE3
    generalize badIf (wrongStep last more) (l3, e3) = s1 at hrest hR4 hok
    obtain ⟨l4, e4⟩ := s1
    simp only at hR4 hok
    (with_reducible repeat (first | refine WP.S1 ?_ | refine WP.B1 ?_ | refine WP.R1 ?_))
    refine RL.A1 T_ok rfl ?_
    refine RL.call (fi := []) (ca := []) rfl rfl rfl rfl (ruint_c m4 (S ++ M) b l4 e4 hR4 hbSM 9007199254740991) ?_
    rintro _ m5 ⟨rfl, hR5, hE5⟩
    refine ⟨_, rfl, ?_⟩
    have hr2 : gR 0 e4 l4 (rdU 9007199254740991 0 0 l4) = rdN 9007199254740991 (l4, e4) := rfl
    have hm2 := rdN_le 9007199254740991 (l4, e4)
    have herr : e4 ≠ 0 → (rdN 9007199254740991 (l4, e4)).2.2 = e4 := fun hh => by
      have : rdN 9007199254740991 (l4, e4) = (0, l4, e4) := gR_off hh
      rw [this]
    rw [hr2] at hR5 ⊢
    generalize rdN 9007199254740991 (l4, e4) = r2 at hrest hR5 hm2 herr ⊢
    obtain ⟨ck, l5, e5⟩ := r2
    simp only at hrest hR5 hm2 herr ⊢
    have hO5 := hO4.ext hE5 (fun k hk hh => hbS (by have h9 : k = b := (by simpa using hh); exact h9 ▸ hk))
    replace hE5 := hE4.trans hE5 (fun k hk => .inl hk)
    clear hR4 hO4 hE4
    refine RL.A1 T_ok rfl ?_
    refine RL.N1 ?_; (with_reducible repeat (first | refine QN.B1 ?_ | refine QN.N1 ?_))
    refine WP.cut (X := Unit) (fun _ => [(0, .pointer (some ⟨b, 0, none⟩)), (3, ov), (4, .int .u64 last), (5, .int .u64 ((n + 1 : Nat) : Int)), (6, .int .u64 more), (7, .int .u64 ck)]) (fun _ m' => RAt m' (S ++ M) b (badIf (decide (ck = 0)) (l5, e5)).1 (badIf (decide (ck = 0)) (l5, e5)).2 ∧ Ext m5 [b] m') ?_ ?_
    · refine WP.cut (X := Bool) (fun q => [(0, .pointer (some ⟨b, 0, none⟩)), (3, ov), (4, .int .u64 last), (5, .int .u64 ((n + 1 : Nat) : Int)), (6, .int .u64 more), (7, .int .u64 ck), (44, .bool q)]) (fun q m' => m' = m5 ∧ q = (decide (e5 = 0) && decide (ck = 0))) ?_ ?_
      · refine WP.R1 ?_
        refine RL.A1 T_ok rfl ?_
        refine RL.call (fi := []) (ca := []) rfl rfl rfl rfl (err_c m5 (S ++ M) b _ _ hR5) ?_
        rintro _ mE ⟨rfl, hmE⟩
        subst hmE
        refine ⟨_, rfl, ?_⟩
        refine RL.pure T_ok 1 rfl ?_
        by_cases he5 : e5 = 0
        rotate_left
        · refine RL.eqv (v' := .bool false) (congrArg _ (by rw [beq_eq_false_iff_ne]; exact he5)) ?_
          refine RL.A1 T_ok rfl ?_
          exact RL.N1 (QN.cutEnd false (Sub.C1 rfl (Sub.C1 rfl (Sub.C1 rfl (Sub.C1 rfl (Sub.C1 rfl (Sub.C1 rfl (Sub.C1 rfl Sub.nil))))))) ⟨rfl, by simp [he5]⟩)
        refine RL.eqv (v' := .bool true) (congrArg _ (by rw [beq_iff_eq]; exact he5)) ?_
        refine RL.pure T_ok 3 rfl ?_
        refine RL.eqv (v' := .bool (decide (ck = 0))) (congrArg _ (deq ck 0)) ?_
        refine RL.A1 T_ok rfl ?_
        exact RL.N1 (QN.cutEnd (decide (ck = 0)) (Sub.C1 rfl (Sub.C1 rfl (Sub.C1 rfl (Sub.C1 rfl (Sub.C1 rfl (Sub.C1 rfl (Sub.C1 rfl Sub.nil))))))) ⟨rfl, by simp [he5]⟩)
      rintro q mq ⟨rfl, hq⟩
      refine WP.cond rfl (fun hp => ?_) (fun hp => ?_)
      · rw [hp] at hq
        have hq2 := hq.symm
        rw [Bool.and_eq_true, decide_eq_true_eq] at hq2
        rw [badIf_yes (s := (l5, e5)) ⟨hq2.1, hq2.2⟩]
        (with_reducible repeat (first | refine WP.S1 ?_ | refine WP.B1 ?_ | refine WP.R1 ?_))
        refine RL.A1 T_ok rfl ?_
        refine RL.call (fi := []) (ca := []) rfl rfl rfl rfl (bad_c mq (S ++ M) b l5 e5 11 hR5 hbSM) ?_
        rintro _ m6 ⟨rfl, hR6, hE6⟩
        refine ⟨_, rfl, ?_⟩
        rw [if_pos hq2.1] at hR6
        exact RL.N1 (QN.cutEnd () (Sub.C1 rfl (Sub.C1 rfl (Sub.C1 rfl (Sub.C1 rfl (Sub.C1 rfl (Sub.C1 rfl Sub.nil)))))) ⟨hR6, hE6⟩)
      · rw [hp] at hq
        rw [badIf_no (s := (l5, e5)) (fun hh => by rw [hh.2, decide_eq_true hh.1] at hq; cases hq)]
        refine WP.skip ?_
        exact QN.cutEnd () (Sub.C1 rfl (Sub.C1 rfl (Sub.C1 rfl (Sub.C1 rfl (Sub.C1 rfl (Sub.C1 rfl Sub.nil)))))) ⟨hR5, Ext.refl _ _⟩
    rintro _ m6 ⟨hR6, hE6⟩
    have hok2 := @badIf_ok (decide (ck = 0)) (l5, e5)
    have hO6 := hO5.ext hE6 (fun k hk hh => hbS (by have h9 : k = b := (by simpa using hh); exact h9 ▸ hk))
    replace hE6 := hE5.trans hE6 (fun k hk => .inl hk)
    clear hR5 hO5 hE5
    generalize badIf (decide (ck = 0)) (l5, e5) = s2 at hrest hR6 hok2
    obtain ⟨l6, e6⟩ := s2
    simp only at hR6 hok2
    have hlast : e6 = 0 → (last + more) % 18446744073709551616 ≤ 9007199254740991 := fun h6 => by
      have h5 := (hok2 h6).1
      have h4 : e4 = 0 := by
        by_cases hh : e4 = 0
        · exact hh
        · have := herr hh; omega
      have h3 := (hok h4).2
      have h3 := of_decide_eq_false h3
      omega
    have hl64' : (last + more) % 18446744073709551616 < 18446744073709551616 := Nat.mod_lt _ (by omega)
    (with_reducible repeat (first | refine WP.S1 ?_ | refine WP.B1 ?_ | refine WP.R1 ?_))
    refine RL.pure T_ok 3 rfl ?_
    refine RL.eqv (v' := .int .u64 (((last + more) % 18446744073709551616 : Nat) : Int)) (congrArg _ (by rw [wrap_u64]; omega)) ?_
    generalize (last + more) % 18446744073709551616 = last2 at hrest hlast hl64' ⊢
    refine RL.A1 T_ok rfl ?_
    refine RL.N1 ?_; (with_reducible repeat (first | refine QN.B1 ?_ | refine QN.N1 ?_ | refine WP.S1 ?_ | refine WP.B1 ?_ | refine WP.R1 ?_))
    refine RL.pure T_ok 4 rfl ?_
    refine RL.append1 T_ok [.tmp 53] hO6 (us := [cV ⟨last2, ck⟩]) (cC ⟨last2, ck⟩) rfl rfl rfl rfl rfl rfl rfl rfl rfl (by simp [cV, cC, Value.cells]) (by simp [cV, Value.cells]) (cC_one _) (by unfold maxLen; omega) (by show (_ + 1) * 16 ≤ _; omega) ?_
    intro v7 m7 S7 hO7 hE7 hF7
    refine ⟨_, rfl, ?_⟩
    have hge : ∀ k ∈ S, m.heap.size ≤ k := fun k hk => by
      rcases hF k hk with h9 | h9
      · cases h9
      · exact h9
    have hR7 : RAt m7 (S7 ++ M) b l6 e6 := hR6.ext hE7 hbS (fun k hk _ => List.mem_append_left _ hk) (fun k hk => by
      rcases List.mem_append.1 hk with h9 | h9
      · rcases hF7 k h9 with h8 | h8
        · exact .inl (List.mem_append_left _ h8)
        · exact .inr h8
      · exact .inl (List.mem_append_right _ h9))
    have hE7' := hE6.trans hE7 (fun k hk => .inr (hge k hk))
    have hF7' : FpNew m [] S7 := fun k hk => by
      rcases hF7 k hk with h8 | h8
      · exact .inr (hge k h8)
      · exact .inr (Nat.le_trans hE6.size h8)
    refine RL.A1 T_ok rfl ?_
    refine RL.N1 ?_; (with_reducible repeat (first | refine QN.B1 ?_ | refine QN.N1 ?_ | refine WP.S1 ?_ | refine WP.B1 ?_ | refine WP.R1 ?_))
    refine RL.pure T_ok 2 rfl ?_
    refine RL.eqv (v' := .int .u64 ((n : Nat) : Int)) (congrArg _ (by rw [wrap_u64_in _ (by omega) (by omega)]; omega)) ?_
    refine RL.A1 T_ok rfl ?_
    refine RL.N1 (QN.round (n, last2, v7, S7, out ++ [⟨last2, ck⟩], l6, e6) (Sub.C1 rfl (Sub.C1 rfl (Sub.C1 rfl (Sub.C1 rfl Sub.nil)))) ⟨hrest, by simp; omega, hl64', hlast, ?_, hR7, hE7', hF7'⟩ (by show n < n + 1; omega))
    rw [List.length_append, ← csC_app]
    simpa using hO7
  rintro ⟨ov, S⟩ m2 ⟨hO, hR, hE, hF⟩
  simp only at hO hR hF
  have hbS : b ∉ S := fun hh => by
    rcases hF b hh with h9 | h9
    · cases h9
    · omega
  obtain ⟨out, l2, e2⟩ := tot
  simp only at hO hR ⊢
  (with_reducible repeat (first | refine WP.S1 ?_ | refine WP.B1 ?_ | refine WP.R1 ?_))
  refine RL.A1 T_ok rfl ?_
  refine RL.call (fi := []) (ca := []) rfl rfl rfl rfl (err_c m2 (S ++ M) b _ _ hR) ?_
  rintro _ mE ⟨rfl, hmE⟩
  subst hmE
  refine ⟨_, rfl, ?_⟩
  refine RL.pure T_ok 1 rfl ?_
  by_cases he : e2 = 0
  · refine RL.eqv (v' := .bool false) (congrArg _ (by simp [he])) ?_
    rw [if_pos he]
    refine RL.N1 ?_; (with_reducible repeat (first | refine QN.B1 ?_ | refine QN.N1 ?_ | refine WP.S1 ?_ | refine WP.B1 ?_ | refine WP.R1 ?_))
    refine WP.condF rfl ?_
    refine WP.skip ?_; (with_reducible repeat (first | refine QN.B1 ?_ | refine QN.N1 ?_ | refine WP.S1 ?_ | refine WP.B1 ?_ | refine WP.R1 ?_))
    refine RL.A1 T_ok rfl ?_
    refine RL.N1 ?_; (with_reducible repeat (first | refine QN.B1 ?_ | refine QN.N1 ?_ | refine WP.S1 ?_ | refine WP.B1 ?_ | refine WP.R1 ?_))
    refine WP.ret ?_; (with_reducible repeat (first | refine QN.tr ?_ | refine QN.br ?_))
    exact QN.ret1 rfl rfl ⟨_, rfl, S, hO, hR, hE, hF⟩
  · refine RL.eqv (v' := .bool true) (congrArg _ (by simp [he])) ?_
    rw [if_neg he]
    refine RL.N1 ?_; (with_reducible repeat (first | refine QN.B1 ?_ | refine QN.N1 ?_ | refine WP.S1 ?_ | refine WP.B1 ?_ | refine WP.R1 ?_))
    refine WP.condT rfl ?_
    (with_reducible repeat (first | refine WP.S1 ?_ | refine WP.B1 ?_ | refine WP.R1 ?_))
    refine RL.A1 T_ok rfl ?_
    refine RL.N1 ?_; (with_reducible repeat (first | refine QN.B1 ?_ | refine QN.N1 ?_ | refine WP.S1 ?_ | refine WP.B1 ?_ | refine WP.R1 ?_))
    refine WP.ret ?_; (with_reducible repeat (first | refine QN.tr ?_ | refine QN.br ?_))
    exact QN.ret1 rfl rfl ⟨_, rfl, [], Own.empty _ _ _ _, hR.ext (Ext.refl _ []) (by simp) (by simp) (fun k hk => .inl (List.mem_append_right _ (by simpa using hk))), hE, FpNew.nil _ _⟩
end Go.Proofs.YtmjpcaiehfimgaaDoor
end
section
namespace Go.Proofs.YtmjpcaiehfimgaaDoor
open Go.RowKit Go.Ev Go.Ids
def lastc (L : List Clk) (i : Nat) : Nat := (L.take i).getLast?.elim 0 Clk.c
theorem lastc_succ (L : List Clk) (i : Nat) (h : i < L.length) : lastc L (i + 1) = L[i].c := by
  unfold lastc
  rw [List.take_succ_eq_append_getElem h, List.getLast?_concat]
  rfl
theorem lastc_lt {L : List Clk} (hL : VCanon L) (i : Nat) (h : i < L.length) : lastc L i < L[i].c := by
  cases i with
  | zero =>
    have := (hL.1 L[0] (List.getElem_mem _)).1
    have e : lastc L 0 = 0 := by simp [lastc]
    rw [e]; omega
  | succ i =>
    rw [lastc_succ L i (by omega)]
    exact List.pairwise_iff_getElem.1 hL.2 i (i + 1) (by omega) h (by omega)
def encA (L : List Clk) (i : Nat) : List UInt8 := encU L.length ++ encL 0 (L.take i)
theorem encA_zero (L : List Clk) : encA L 0 = encU L.length := by simp [encA, encL]
theorem encA_all (L : List Clk) : encA L L.length = encV L := by simp [encA, encV]
theorem encA_succ (L : List Clk) (i : Nat) (h : i < L.length) : encA L (i + 1) = encA L i ++ encU (L[i].c - lastc L i) ++ encU L[i].k := by
  unfold encA lastc
  rw [List.take_succ_eq_append_getElem h, encL_snoc]
  simp
theorem encA_len {L : List Clk} (hL : VCanon L) (hl : L.length < 1000000) (i : Nat) : (encA L i).length ≤ 20 * L.length + 10 := by
  unfold encA
  have h1 := encU_len10 (n := L.length) (by omega)
  have h2 := encL_len 0 (L.take i) (fun x hx => hL.1 x (List.mem_of_mem_take hx))
  have h3 := List.length_take_le i L
  have h4 : (L.take i).length ≤ L.length := List.length_take_le' _ _
  rw [List.length_append]; omega
theorem vwrite_c (m : World) (b : Nat) (S : List Nat) (bs : List UInt8) (v : Value) (l : List Clk) (hW : WAt m b S bs) (h : Cs m [] v l) (hl : l.length < 1000000) (hbs : bs.length < 100000000) :
    FnR Tryd.prog 16 [.pointer (some ⟨b, 0, none⟩), v] m (WPost m b S (bs ++ encV (vclean l))) := by
  refine FnE.enter ⟨_, Tryd.func16, by kernel_rfl, by kernel_rfl⟩ Tryd.func16 rfl rfl ?_
  (with_reducible repeat (first | refine WP.S1 ?_ | refine WP.B1 ?_ | refine WP.R1 ?_))
  refine RL.A1 T_ok rfl ?_
  refine RL.call (fi := []) (ca := []) rfl rfl rfl rfl (vclean_c m v l h (by omega)) ?_
  rintro v1 m1 ⟨S1, hO1, hN1⟩
  refine ⟨_, rfl, ?_⟩
  have hcan := vclean_canon l
  have hln := vclean_len l
  generalize vclean l = L at hO1 hcan hln ⊢
  obtain ⟨A, c, rfl, _⟩ := hO1.shape
  have hW1 := hW.ext hN1.1 (by simp)
  have hC1 : Cs m1 S (.slice A L.length c) L := hO1.sl (fun k hk hh => by
    have h1 := hN1.ge k hk
    have h2 := hW.lt k hh
    omega)
  have hlt := hW.lt
  clear hW hO1
  refine RL.A1 T_ok rfl ?_
  refine RL.N1 ?_; (with_reducible repeat (first | refine QN.B1 ?_ | refine QN.N1 ?_ | refine WP.S1 ?_ | refine WP.B1 ?_ | refine WP.R1 ?_))
  refine RL.pure T_ok 3 rfl ?_
  refine RL.pure T_ok 1 rfl ?_
  refine RL.eqv (v' := .int .u64 (L.length : Nat)) (congrArg _ (by rw [wrap_u64_in _ (by omega) (by omega)])) ?_
  refine RL.call (fi := []) (ca := []) rfl rfl rfl rfl (wuint m1 L.length (by omega) b S bs hW1 (by omega)) ?_
  rintro _ m2 ⟨rfl, S2, hW2, hE2, hF2⟩
  refine ⟨_, rfl, ?_⟩
  have hC2 : Cs m2 S2 (.slice A L.length c) L := Sl.ext hC1 hE2 hF2 (by omega)
  have hE02 : Ext m S m2 := (hN1.1.mono (by simp)).trans hE2 (fun k hk => .inl hk)
  have hF02 : FpNew m S S2 := fun k hk => by
    rcases hF2 k hk with h9 | h9
    · exact .inl h9
    · exact .inr (Nat.le_trans hN1.1.size h9)
  rw [← encA_zero L] at hW2
  clear hW1 hC1 hE2 hF2
  refine RL.N1 ?_; (with_reducible repeat (first | refine QN.B1 ?_ | refine QN.N1 ?_ | refine WP.S1 ?_ | refine WP.B1 ?_ | refine WP.R1 ?_))
  refine RL.A1 T_ok rfl ?_
  refine RL.N1 ?_; (with_reducible repeat (first | refine QN.B1 ?_ | refine QN.N1 ?_ | refine WP.S1 ?_ | refine WP.B1 ?_ | refine WP.R1 ?_))
  refine RL.A1 T_ok rfl ?_
  refine RL.N1 ?_; (with_reducible repeat (first | refine QN.B1 ?_ | refine QN.N1 ?_ | refine WP.S1 ?_ | refine WP.B1 ?_ | refine WP.R1 ?_))
  refine (WP.loop (X := Nat × List Nat) (fun q => [(0, .pointer (some ⟨b, 0, none⟩)), (4, .int .u64 (lastc L q.1)), (14, .slice A L.length c), (15, .int .i64 L.length), (16, .int .i64 q.1)])
    (fun q m' => q.1 ≤ L.length ∧ WAt m' b q.2 (bs ++ encA L q.1) ∧ Cs m' q.2 (.slice A L.length c) L ∧ Ext m S m' ∧ FpNew m S q.2) (fun q => L.length - q.1) (0, S2)
    (Sub.C1 rfl (Sub.C1 rfl (Sub.C1 rfl (Sub.C1 rfl (Sub.C1 rfl Sub.nil))))) ⟨by simp, hW2, hC2, hE02, hF02⟩ ?_)
  clear hW2 hC2 hE02 hF02
  rintro ⟨i, S3⟩ m3 ⟨hi, hW, hC, hE, hF⟩
  simp only at hi hW hC hF
  (with_reducible repeat (first | refine WP.S1 ?_ | refine WP.B1 ?_ | refine WP.R1 ?_))
  refine RL.A1 T_ok rfl ?_
  refine RL.N1 ?_; (with_reducible repeat (first | refine QN.B1 ?_ | refine QN.N1 ?_ | refine WP.S1 ?_ | refine WP.B1 ?_ | refine WP.R1 ?_))
  refine WP.cond rfl (fun hc => ?_) (fun hc => ?_)
  · replace hc : i < L.length := by have := of_decide_eq_true hc; simp only at this; omega
    obtain ⟨ad, rfl, hx⟩ := hC.cell i hc
    have hok := hcan.1 L[i] (List.getElem_mem _)
    have hlast := lastc_lt hcan i hc
    have hsucc := lastc_succ L i hc
    have henc := encA_succ L i hc
    have hlen := encA_len hcan (by omega) i
    generalize L[i] = x at hx hok hlast hsucc henc
    have hc1 := hok.2.1
    have hc2 := hok.2.2.2
    have hu1 := encU_len10 (n := x.c - lastc L i) (by omega)
    have hltS := hW.lt
    refine WP.skip ?_; (with_reducible repeat (first | refine QN.B1 ?_ | refine QN.N1 ?_ | refine WP.S1 ?_ | refine WP.B1 ?_ | refine WP.R1 ?_))
    refine RL.indexAddr (k := i) T_ok rfl rfl rfl rfl rfl rfl rfl hc rfl ?_
    refine RL.loadAgg T_ok (cC x) rfl rfl rfl hx rfl ?_
    refine RL.alloc T_ok rfl rfl (fun b3 m4 hb3 hC3 => ⟨_, rfl, ?_⟩)
    refine RL.storeAgg T_ok (b := b3) (i := 0) (vs := cC x) (cs := [.int .u64 0, .int .u64 0]) hC3.blk rfl rfl rfl rfl rfl (by simp) (by simp [cC, Value.oneCell']) rfl ?_
    intro m5 hC4
    have hE5 : Ext m3 [] m5 := (hC3.new (by omega)).trans hC4.ext (fun q hq => .inr (by have h9 : q = b3 := (by simpa using hq); omega))
    have hB5 : Blk m5 b3 39 (cC x) := hC4.blk
    have hbS : b3 ∉ S3 := fun hh => by have := hltS _ hh; omega
    have hW5 := hW.ext hE5 (by simp)
    have hC5 : Cs m5 S3 (.slice (some ad) L.length c) L := Sl.ext hC (hE5.mono (by simp)) (fun k hk => .inl hk) (by omega)
    clear hC3 hC4 hW hC
    refine RL.N1 ?_; (with_reducible repeat (first | refine QN.B1 ?_ | refine QN.N1 ?_ | refine WP.S1 ?_ | refine WP.B1 ?_ | refine WP.R1 ?_))
    refine RL.pure T_ok 2 rfl ?_
    refine RL.load T_ok rfl rfl rfl (hB5.cell 0 rfl) rfl ?_
    refine RL.pure T_ok 2 rfl ?_
    refine RL.eqv (v' := .int .u64 ((x.c - lastc L i : Nat) : Int)) (congrArg _ (by rw [wrap_u64_in _ (by simp only; omega) (by simp only; omega)]; simp only; omega)) ?_
    refine RL.call (fi := []) (ca := []) rfl rfl rfl rfl (wuint m5 (x.c - lastc L i) (by omega) b S3 (bs ++ encA L i) hW5 (by rw [List.length_append]; omega)) ?_
    rintro _ m6 ⟨rfl, S6, hW6, hE6, hF6⟩
    refine ⟨_, rfl, ?_⟩
    have hB6 := hB5.ext hE6 hbS
    have hbS6 : b3 ∉ S6 := hF6.far hbS hB5.lt
    have hC6 : Cs m6 S6 (.slice (some ad) L.length c) L := Sl.ext hC5 hE6 hF6 (by omega)
    refine RL.N1 ?_; (with_reducible repeat (first | refine QN.B1 ?_ | refine QN.N1 ?_ | refine WP.S1 ?_ | refine WP.B1 ?_ | refine WP.R1 ?_))
    refine RL.pure T_ok 2 rfl ?_
    refine RL.load T_ok rfl rfl rfl (hB6.cell 1 rfl) rfl ?_
    refine RL.call (fi := []) (ca := []) rfl rfl rfl rfl (wuint m6 x.k (by omega) b S6 (bs ++ encA L i ++ encU (x.c - lastc L i)) hW6 (by rw [List.length_append, List.length_append]; omega)) ?_
    rintro _ m7 ⟨rfl, S7, hW7, hE7, hF7⟩
    refine ⟨_, rfl, ?_⟩
    have hB7 := hB6.ext hE7 hbS6
    have hC7 : Cs m7 S7 (.slice (some ad) L.length c) L := Sl.ext hC6 hE7 hF7 (by omega)
    refine RL.N1 ?_; (with_reducible repeat (first | refine QN.B1 ?_ | refine QN.N1 ?_ | refine WP.S1 ?_ | refine WP.B1 ?_ | refine WP.R1 ?_))
    refine RL.pure T_ok 1 rfl ?_
    refine RL.load T_ok rfl rfl rfl (hB7.cell 0 rfl) rfl ?_
    refine RL.A1 T_ok rfl ?_
    refine RL.N1 ?_; (with_reducible repeat (first | refine QN.B1 ?_ | refine QN.N1 ?_ | refine WP.S1 ?_ | refine WP.B1 ?_ | refine WP.R1 ?_))
    refine RL.pure T_ok 1 rfl ?_
    refine RL.eqv (v' := .int .i64 ((i + 1 : Nat) : Int)) (congrArg _ (by rw [wrap_i64_in _ (by omega) (by omega)]; rfl)) ?_
    refine RL.A1 T_ok rfl ?_
    have hF37 : FpNew m3 S3 S7 := fun k hk => by
      rcases hF7 k hk with h9 | h9
      · rcases hF6 k h9 with h8 | h8
        · exact .inl h8
        · exact .inr (Nat.le_trans hE5.size h8)
      · exact .inr (Nat.le_trans hE5.size (Nat.le_trans hE6.size h9))
    have hE37 : Ext m3 S3 m7 := ((hE5.mono (by simp)).trans hE6 (fun k hk => .inl hk)).trans hE7 (fun k hk => by
      rcases hF6 k hk with h9 | h9
      · exact .inl h9
      · exact .inr (Nat.le_trans hE5.size h9))
    refine RL.N1 (QN.round (i + 1, S7) (Sub.C1 rfl (Sub.C1 (by rw [hsucc]; rfl) (Sub.C1 rfl (Sub.C1 rfl (Sub.C1 rfl Sub.nil))))) ⟨by show i + 1 ≤ _; omega, ?_, hC7, hE.trans hE37 (fun k hk => hF k hk), hF.trans hF37 hE.size⟩ (by show _ - (i + 1) < _ - i; omega))
    show WAt m7 b S7 (bs ++ encA L (i + 1))
    rw [henc, ← List.append_assoc, ← List.append_assoc]
    exact hW7
  · replace hc : i = L.length := by have := of_decide_eq_false hc; simp only at this; omega
    subst hc
    rw [encA_all] at hW
    refine WP.exit ?_
    (with_reducible repeat (first | refine QN.tx ?_ | refine QN.bx ?_ | refine QN.block_far rfl ?_ | refine QN.B1 ?_ | refine QN.N1 ?_))
    exact QN.end0 rfl ⟨_, rfl, rfl, S3, hW, hE, hF⟩
end Go.Proofs.YtmjpcaiehfimgaaDoor
end
section
namespace Go.Proofs.YtmjpcaiehfimgaaDoor
open Go.RowKit Go.Ev Go.Ids
end Go.Proofs.YtmjpcaiehfimgaaDoor
end
section
namespace Go.Proofs.YtmjpcaiehfimgaaDoor
open Go.ChangeShapes Go.WideShapes Go.ChangeAt Go.RowKit Go.Ev Go.Ids
end Go.Proofs.YtmjpcaiehfimgaaDoor
end
section
namespace Go.Proofs.YtmjpcaiehfimgaaDoor
open Go.RowKit Go.Ev Go.Ids
def tC (x : Trn) : List Value := [.int .u64 x.c, .int .u64 x.f, .int .u64 x.t, .int .u64 x.n]
def tV (x : Trn) : Value := .agg (tC x).toArray
theorem tright_eq (x : Trn) : x.right = (Rng.right ⟨x.c, x.f, x.t⟩ && num x.n) := rfl
theorem turn_c (m : World) (x : Trn) : FnR Tryd.prog 30 [tV x] m fun r m' => r = .bool x.right ∧ Ext m [] m' := by
  refine FnE.enter ⟨_, Tryd.func30, by kernel_rfl, by kernel_rfl⟩ Tryd.func30 rfl rfl ?_
  (with_reducible repeat (first | refine WP.S1 ?_ | refine WP.B1 ?_ | refine WP.R1 ?_))
  refine RL.box rfl rfl (fun b m1 hb hC => ⟨_, rfl, ?_⟩)
  have hB : Blk m1 b 53 (tC x) := hC.here
  have hE : Ext m [] m1 := hC.new (by omega)
  clear hC
  refine RL.A1 T_ok rfl ?_
  refine RL.N1 ?_; (with_reducible repeat (first | refine QN.B1 ?_ | refine QN.N1 ?_ | refine WP.S1 ?_ | refine WP.B1 ?_ | refine WP.R1 ?_))
  repeat (first | refine RL.pure T_ok 1 rfl ?_ | refine RL.load T_ok rfl rfl rfl (hB.cell _ rfl) rfl ?_)
  refine RL.eqv (v' := rV ⟨x.c, x.f, x.t⟩) rfl ?_
  refine RL.call (fi := []) (ca := []) rfl rfl rfl rfl (right_c m1 ⟨x.c, x.f, x.t⟩) ?_
  rintro _ m2 ⟨rfl, hE2⟩
  refine ⟨_, rfl, ?_⟩
  have hB2 := hB.ext hE2 (by simp)
  by_cases h1 : Rng.right ⟨x.c, x.f, x.t⟩ = true
  · refine RL.eqv (v' := .bool true) (congrArg _ h1) ?_
    repeat (first | refine RL.pure T_ok 1 rfl ?_ | refine RL.load T_ok rfl rfl rfl (hB2.cell _ rfl) rfl ?_)
    refine RL.call (fi := []) (ca := []) rfl rfl rfl rfl (number_c m2 x.n) ?_
    rintro _ m3 ⟨rfl, rfl⟩
    refine ⟨_, rfl, ?_⟩
    repeat (first | refine RL.pure T_ok 1 rfl ?_ | refine RL.load T_ok rfl rfl rfl (hB2.cell _ rfl) rfl ?_)
    refine RL.N1 ?_; (with_reducible repeat (first | refine QN.B1 ?_ | refine QN.N1 ?_ | refine WP.S1 ?_ | refine WP.B1 ?_ | refine WP.R1 ?_))
    refine WP.ret ?_; (with_reducible repeat (first | refine QN.tr ?_ | refine QN.br ?_))
    exact QN.ret1 rfl rfl ⟨_, rfl, congrArg _ (by rw [tright_eq, h1]; rfl), hE.trans hE2 (by simp)⟩
  · refine RL.eqv (v' := .bool false) (congrArg _ (Bool.not_eq_true _ ▸ h1)) ?_
    repeat (first | refine RL.pure T_ok 1 rfl ?_ | refine RL.load T_ok rfl rfl rfl (hB2.cell _ rfl) rfl ?_)
    refine RL.N1 ?_; (with_reducible repeat (first | refine QN.B1 ?_ | refine QN.N1 ?_ | refine WP.S1 ?_ | refine WP.B1 ?_ | refine WP.R1 ?_))
    refine WP.ret ?_; (with_reducible repeat (first | refine QN.tr ?_ | refine QN.br ?_))
    exact QN.ret1 rfl rfl ⟨_, rfl, congrArg _ (by rw [tright_eq]; simp [h1]), hE.trans hE2 (by simp)⟩
def cfT (x y : Trn) : Int := if cmpN x.c y.c = 0 then cmpN x.f y.f else cmpN x.c y.c
theorem cmpT_c (m : World) (x y : Trn) : FnR Tryd.prog 32 [tV x, tV y] m fun r m' => r = .int .i64 (cfT x y) ∧ Ext m [] m' := by
  refine FnE.enter ⟨_, Tryd.func32, by kernel_rfl, by kernel_rfl⟩ Tryd.func32 rfl rfl ?_
  (with_reducible repeat (first | refine WP.S1 ?_ | refine WP.B1 ?_ | refine WP.R1 ?_))
  refine RL.box rfl rfl (fun b m1 hb hC => ⟨_, rfl, ?_⟩)
  refine RL.box rfl rfl (fun b2 m2 hb2 hC2 => ⟨_, rfl, ?_⟩)
  have hE1 : Ext m [] m1 := hC.new (by omega)
  have hE2 : Ext m1 [] m2 := hC2.new (by omega)
  have s1 := hC.size
  have hB0 : Blk m1 b 53 (tC x) := hC.here
  have hB : Blk m2 b 53 (tC x) := hB0.ext hE2 (by simp)
  have hD : Blk m2 b2 53 (tC y) := hC2.here
  have hE : Ext m [] m2 := hE1.trans hE2 (by simp)
  clear hC hC2 hB0 hE1 hE2
  refine RL.A1 T_ok rfl ?_
  refine RL.N1 (QN.N1 ?_)
  refine WP.S1 ?_
  refine WP.drawQ (fun m' => Blk m' b 53 (tC x) ∧ Blk m' b2 53 (tC y)) [] (by kernel_rfl) ⟨hB, hD⟩ (by with_reducible repeat (first | exact PanicOk.body | refine PanicOk.then_ ?_ | refine PanicOk.block_ ?_)) (fun hQ => ?_)
  refine RH.pure T_ok hQ [0] (by kernel_rfl) rfl ?_
  refine RH.load T_ok hQ 1 (fun m' h => h.1.cell 0 rfl) rfl (by kernel_rfl) rfl rfl rfl rfl ?_
  refine RH.pure T_ok hQ [2] (by kernel_rfl) rfl ?_
  refine RH.load T_ok hQ 3 (fun m' h => h.2.cell 0 rfl) rfl (by kernel_rfl) rfl rfl rfl rfl ?_
  refine RH.pure T_ok hQ [5] (by kernel_rfl) rfl ?_
  refine RH.load T_ok hQ 6 (fun m' h => h.1.cell 1 rfl) rfl (by kernel_rfl) rfl rfl rfl rfl ?_
  refine RH.pure T_ok hQ [7] (by kernel_rfl) rfl ?_
  refine RH.load T_ok hQ 8 (fun m' h => h.2.cell 1 rfl) rfl (by kernel_rfl) rfl rfl rfl rfl ?_
  refine RH.only 4 rfl (by kernel_rfl) (fun _ => ?_)
  refine RL.call (fi := []) (ca := []) rfl rfl rfl rfl (compare_c m2 x.c y.c) ?_
  rintro _ m3 ⟨rfl, rfl⟩
  refine ⟨_, rfl, RL.N1 (RH.cont ⟨hB, hD⟩ ?_)⟩
  refine RH.only 9 rfl (by kernel_rfl) (fun _ => ?_)
  refine RL.call (fi := []) (ca := []) rfl rfl rfl rfl (compare_c m3 x.f y.f) ?_
  rintro _ m4 ⟨rfl, rfl⟩
  refine ⟨_, rfl, RL.N1 (RH.cont ⟨hB, hD⟩ ?_)⟩
  refine RH.only 10 rfl (by kernel_rfl) (fun _ => ?_)
  refine RL.buildSlice T_ok [.tmp 9, .tmp 14] [.int .i64 (cmpN x.c y.c), .int .i64 (cmpN x.f y.f)] rfl rfl rfl rfl rfl rfl (by simp [Value.cells]) rfl rfl (fun b5 m5 hb5 hC5 => ⟨_, rfl, ?_⟩)
  have hE5 : Ext m4 [] m5 := hC5.new (by omega)
  refine RL.N1 (RH.cont ⟨hB.ext hE5 (by simp), hD.ext hE5 (by simp)⟩ ?_)
  have hS5 : Sl m5 [] 1 (.slice (some ⟨b5, 0, none⟩) 2 2) [.int .i64 (cmpN x.c y.c), .int .i64 (cmpN x.f y.f)] := Sl.of_blk (M := []) (n := 2) (c := 2) (sz := 1) hC5.blk (by simp) (by simp) (by omega) (by unfold maxLen; omega)
  refine RH.only 11 rfl (by kernel_rfl) (fun _ => ?_)
  refine RL.call (fi := []) (ca := []) rfl rfl rfl rfl (or_c m5 _ _ _ hS5) ?_
  rintro _ m6 ⟨rfl, rfl⟩
  refine ⟨_, rfl, RL.N1 (RH.cont ⟨hB.ext hE5 (by simp), hD.ext hE5 (by simp)⟩ ?_)⟩
  refine RH.pure T_ok hQ [12] (by kernel_rfl) rfl ?_
  refine RH.done (by kernel_rfl) (fun _ => ?_)
  refine QN.N1 ?_
  refine WP.ret ?_; (with_reducible repeat (first | refine QN.tr ?_ | refine QN.br ?_))
  exact QN.ret1 rfl rfl ⟨_, rfl, rfl, hE.trans hE5 (by simp)⟩
theorem tsC_len : ∀ l : List Trn, (l.flatMap tC).length = l.length * 4
  | [] => rfl
  | x :: l => by simp [tC, tsC_len l]; omega
theorem tsC_get : ∀ (l : List Trn) (k : Nat) (h : k < l.length) (j : Nat), j < 4 → (l.flatMap tC)[k * 4 + j]? = (tC l[k])[j]?
  | x :: l, 0, _, j, hj => by
    rw [List.flatMap_cons, List.getElem?_append_left (by simp [tC]; omega)]
    simp
  | x :: l, k + 1, h, j, hj => by
    rw [List.flatMap_cons, List.getElem?_append_right (by simp [tC]; omega)]
    have : (k + 1) * 4 + j - (tC x).length = k * 4 + j := by simp [tC]; omega
    rw [this, tsC_get l k (by simpa using h) j hj]
    simp
def Ts (m : World) (M : List Nat) (v : Value) (l : List Trn) : Prop := Sl m M 4 v (l.flatMap tC)
theorem Ts.shape {m : World} {M : List Nat} {v : Value} {l : List Trn} (h : Ts m M v l) : ∃ A c, v = .slice A l.length c ∧ l.length ≤ c ∧ c ≤ maxLen := Sl.shape h (tsC_len l) (by omega)
theorem Ts.ext0 {m m' : World} {v : Value} {l : List Trn} (h : Ts m [] v l) (hE : Ext m [] m') : Ts m' [] v l := Sl.ext h hE (by simp) (by omega)
theorem Ts.cell {m : World} {M : List Nat} {A : Option Addr} {n c : Nat} {l : List Trn} (h : Ts m M (.slice A n c) l) (k : Nat) (hk : k < l.length) : ∃ ad, A = some ad ∧ ∀ j u, (tC l[k])[j]? = some u → m.cell? ((ad.add (k * 4)).add j) = some u := by
  obtain ⟨hl, _⟩ := Sl.len h
  rw [tsC_len] at hl
  obtain ⟨ad, rfl, _, hc⟩ := Sl.addr h (by omega)
  refine ⟨ad, rfl, fun j u hu => ?_⟩
  have hj : j < 4 := by have := (List.getElem?_eq_some_iff.1 hu).1; simpa [tC] using this
  rw [add_add]
  exact hc _ u (by rw [tsC_get l k hk j hj]; exact hu)
theorem eqT_run (x y : Trn) (w : World) : (binOp .neq 53 (tV x) (tV y)).run Tryd.prog w = .ok (.bool (decide (x ≠ y))) w := by
  have hS : Tryd.prog.underlying 53 = some (.struct (Tryd.prog.fieldsOf 53)) := by kernel_rfl
  have hp : Tryd.prog.stoodInHeld 53 = false := by kernel_rfl
  have u37 := Tryd.underlying22
  have a37 := Tryd.isAgg22
  have z37 := Tryd.sizeOf22
  simp only [tV, tC]
  rw [run_neq_struct, show (10000 : Nat) = 9999 + 1 from rfl, run_equalIn_agg w 9999 53 _ _ hS hp]
  simp only [Program.fieldsOf, Tryd.underlying53]
  go_simp
  obtain ⟨a, b, c, d⟩ := x
  obtain ⟨a', b', c', d'⟩ := y
  by_cases h1 : a = a' <;> by_cases h2 : b = b' <;> by_cases h3 : c = c' <;> by_cases h4 : d = d' <;> simp [h1, h2, h3, h4, Int.natCast_inj] 
theorem eqT_guard (x y : Trn) (ox oy : Operand) (w : World) : (eqGuard .neq 53 ox oy (tV x) (tV y)).run Tryd.prog w = .ok () w := run_eqGuard_agg w .neq 53 ox oy _ _ (by kernel_rfl)
def TK (b1 b2 : Nat) (v : Value) (l : List Trn) (k : FuncId) (a : World) : Prop := Blk a b1 24 [v] ∧ Blk a b2 70 [.func (.func k) #[] #[]] ∧ Ts a [] v l
theorem rightsT1_c (m : World) (b1 b2 : Nat) (v : Value) (l : List Trn) (hl : l.length < 1000000000) (k : FuncId) (p : Trn → Bool) (hf : ∀ m1 x, FnR Tryd.prog k [tV x] m1 fun r m2 => r = .bool (p x) ∧ Ext m1 [] m2) :
    SeqE Tryd.prog 49 [.pointer (some ⟨b1, 0, none⟩), .pointer (some ⟨b2, 0, none⟩)] (fun x : Trn => [tV x]) false (TK b1 b2 v l k) (fun pre x => p x = true ∧ pre.length < l.length) (fun xs => xs = l.filter p) (fun _ => True) m := by
  intro lp J Jx m1 _ hJ hJx hK hround h0
  have hk0 := hK _ _ h0
  obtain ⟨A, c, rfl, _, _⟩ := hk0.2.2.shape
  refine FnE.enter ⟨_, Tryd.func49, by kernel_rfl, by kernel_rfl⟩ Tryd.func49 rfl rfl ?_
  (with_reducible repeat (first | refine WP.S1 ?_ | refine WP.B1 ?_ | refine WP.R1 ?_))
  refine RL.load T_ok rfl rfl rfl (hk0.1.cell 0 rfl) rfl ?_
  refine RL.A1 T_ok rfl ?_
  refine RL.N1 ?_; (with_reducible repeat (first | refine QN.B1 ?_ | refine QN.N1 ?_ | refine WP.S1 ?_ | refine WP.B1 ?_ | refine WP.R1 ?_))
  refine WP.loop (X := Nat) (fun i => [(0, .func (.yield lp) #[] #[]), (1, .pointer (some ⟨b1, 0, none⟩)), (2, .pointer (some ⟨b2, 0, none⟩)), (6, .slice A l.length c), (7, .int .i64 l.length), (8, .int .i64 i)])
    (fun i m' => i ≤ l.length ∧ J ((l.take i).filter p) m') (fun i => l.length - i) 0 (Sub.C1 rfl (Sub.C1 rfl (Sub.C1 rfl (Sub.C1 rfl (Sub.C1 rfl (Sub.C1 rfl Sub.nil)))))) ⟨by simp, h0⟩ ?_
  rintro i m2 ⟨hi, hj⟩
  have hk := hK _ _ hj
  (with_reducible repeat (first | refine WP.S1 ?_ | refine WP.B1 ?_ | refine WP.R1 ?_))
  refine RL.A1 T_ok rfl ?_
  refine RL.N1 ?_; (with_reducible repeat (first | refine QN.B1 ?_ | refine QN.N1 ?_ | refine WP.S1 ?_ | refine WP.B1 ?_ | refine WP.R1 ?_))
  refine WP.cond rfl (fun hc => ?_) (fun hc => ?_)
  · have hc : i < l.length := by have := of_decide_eq_true hc; omega
    obtain ⟨ad, rfl, hx⟩ := hk.2.2.cell i hc
    have hstep : (l.take (i + 1)).filter p = (l.take i).filter p ++ (if p l[i] then [l[i]] else []) := by
      rw [List.take_succ_eq_append_getElem hc, List.filter_append]
      cases h : p l[i] <;> simp [h]
    refine WP.skip ?_; (with_reducible repeat (first | refine QN.B1 ?_ | refine QN.N1 ?_ | refine WP.S1 ?_ | refine WP.B1 ?_ | refine WP.R1 ?_))
    refine RL.indexAddr (k := i) T_ok rfl rfl rfl rfl rfl rfl rfl hc rfl ?_
    refine RL.loadAgg T_ok (tC l[i]) rfl rfl rfl hx rfl ?_
    refine RL.alloc T_ok rfl rfl (fun b5 m3 hb5 hC3 => ⟨_, rfl, ?_⟩)
    refine RL.storeAgg T_ok (b := b5) (i := 0) (vs := tC l[i]) (cs := [.int .u64 0, .int .u64 0, .int .u64 0, .int .u64 0]) hC3.blk rfl rfl rfl rfl rfl (by simp) (by simp [tC, Value.oneCell']) rfl ?_
    intro m4 hC4
    have hE4 : Ext m2 [] m4 := (hC3.new (by omega)).trans hC4.ext (fun q hq => .inr (by have h9 : q = b5 := (by simpa using hq); omega))
    have hB4 : Blk m4 b5 53 (tC l[i]) := hC4.blk
    have hj4 := hJ _ _ _ hj hE4
    have hk4 := hK _ _ hj4
    refine RL.N1 ?_; (with_reducible repeat (first | refine QN.B1 ?_ | refine QN.N1 ?_ | refine WP.S1 ?_ | refine WP.B1 ?_ | refine WP.R1 ?_))
    refine RL.load T_ok rfl rfl rfl (hk4.2.1.cell 0 rfl) rfl ?_
    refine RL.loadAgg T_ok (tC l[i]) rfl rfl rfl (fun j u hu => by rw [add_block]; exact hB4.cell _ (by simpa using hu)) rfl ?_
    refine RL.call (fi := []) (ca := []) rfl rfl rfl rfl (hf m4 l[i]) ?_
    rintro _ m5 ⟨rfl, hE5⟩
    refine ⟨_, rfl, ?_⟩
    have hB5 := hB4.ext hE5 (by simp)
    have hj5 := hJ _ _ _ hj4 hE5
    refine RL.pure T_ok 1 rfl ?_
    by_cases hp : p l[i] = true
    · refine RL.eqv (v' := .bool true) (congrArg _ hp) ?_
      refine RL.A1 T_ok rfl ?_
      refine RL.loadAgg T_ok (tC l[i]) rfl rfl rfl (fun j u hu => by rw [add_block]; exact hB5.cell _ (by simpa using hu)) rfl ?_
      refine RL.yield rfl rfl rfl (hround _ l[i] m5 hj5 ⟨hp, Nat.lt_of_le_of_lt (List.length_filter_le _ _) (by simp; omega)⟩) ?_ (by rintro ch m6 (⟨h, _⟩ | ⟨h, _⟩) <;> cases h) (by rintro m6 (⟨h, _⟩ | ⟨h, _⟩) <;> cases h)
      rintro _ m6 (⟨h6, hj6, _⟩ | ⟨h6, hj6⟩)
      · injection h6 with h6
        subst h6
        refine ⟨_, rfl, ?_⟩
        refine RL.A1 T_ok rfl ?_
        refine RL.N1 ?_; (with_reducible repeat (first | refine QN.B1 ?_ | refine QN.N1 ?_ | refine WP.S1 ?_ | refine WP.B1 ?_ | refine WP.R1 ?_))
        refine WP.condF rfl ?_
        refine WP.skip ?_; (with_reducible repeat (first | refine QN.B1 ?_ | refine QN.N1 ?_ | refine WP.S1 ?_ | refine WP.B1 ?_ | refine WP.R1 ?_))
        refine RL.pure T_ok 1 rfl ?_
        refine RL.eqv (v' := .int .i64 ((i + 1 : Nat) : Int)) (congrArg _ (by rw [wrap_i64_in _ (by omega) (by omega)]; rfl)) ?_
        refine RL.A1 T_ok rfl ?_
        refine RL.N1 (QN.round (i + 1) (Sub.C1 rfl (Sub.C1 rfl (Sub.C1 rfl (Sub.C1 rfl (Sub.C1 rfl (Sub.C1 rfl Sub.nil)))))) ⟨by omega, ?_⟩ (by omega))
        rw [hstep, if_pos hp]; exact hj6
      · injection h6 with h6
        subst h6
        refine ⟨_, rfl, ?_⟩
        refine RL.A1 T_ok rfl ?_
        refine RL.N1 ?_; (with_reducible repeat (first | refine QN.B1 ?_ | refine QN.N1 ?_ | refine WP.S1 ?_ | refine WP.B1 ?_ | refine WP.R1 ?_))
        refine WP.condT rfl ?_
        refine WP.ret ?_; (with_reducible repeat (first | refine QN.tr ?_ | refine QN.br ?_))
        exact QN.ret0 rfl ⟨_, rfl, .inr ⟨_, trivial, hj6⟩⟩
    · refine RL.eqv (v' := .bool false) (congrArg _ (Bool.not_eq_true _ ▸ hp)) ?_
      refine RL.A1 T_ok rfl ?_
      refine RL.N1 ?_; (with_reducible repeat (first | refine QN.B1 ?_ | refine QN.N1 ?_ | refine WP.S1 ?_ | refine WP.B1 ?_ | refine WP.R1 ?_))
      refine WP.condF rfl ?_
      refine WP.skip ?_; (with_reducible repeat (first | refine QN.B1 ?_ | refine QN.N1 ?_ | refine WP.S1 ?_ | refine WP.B1 ?_ | refine WP.R1 ?_))
      refine RL.pure T_ok 1 rfl ?_
      refine RL.eqv (v' := .int .i64 ((i + 1 : Nat) : Int)) (congrArg _ (by rw [wrap_i64_in _ (by omega) (by omega)]; rfl)) ?_
      refine RL.A1 T_ok rfl ?_
      refine RL.N1 (QN.round (i + 1) (Sub.C1 rfl (Sub.C1 rfl (Sub.C1 rfl (Sub.C1 rfl (Sub.C1 rfl (Sub.C1 rfl Sub.nil)))))) ⟨by omega, ?_⟩ (by omega))
      rw [hstep, if_neg hp, List.append_nil]; exact hj5
  · have hc : i = l.length := by have := of_decide_eq_false hc; omega
    subst hc
    rw [List.take_length] at hj
    refine WP.exit ?_; (with_reducible repeat (first | refine QN.tx ?_ | refine QN.bx ?_ | refine QN.block_far rfl ?_ | refine QN.B1 ?_ | refine QN.N1 ?_)); (with_reducible repeat (first | refine WP.S1 ?_ | refine WP.B1 ?_ | refine WP.R1 ?_))
    exact QN.end0 rfl ⟨_, rfl, .inl ⟨_, rfl, hj⟩⟩
theorem rightsT_c (m : World) (v : Value) (l : List Trn) (k : FuncId) : FnR Tryd.prog 29 [v, .func (.func k) #[] #[]] m fun r m' => ∃ b1 b2, r = .func (.func 49) #[] #[.pointer (some ⟨b1, 0, none⟩), .pointer (some ⟨b2, 0, none⟩)] ∧ m.heap.size ≤ b1 ∧ m.heap.size ≤ b2 ∧ Ext m [] m' ∧ (Ts m [] v l → TK b1 b2 v l k m') := by
  refine FnE.enter ⟨_, Tryd.func29, by kernel_rfl, by kernel_rfl⟩ Tryd.func29 rfl rfl ?_
  (with_reducible repeat (first | refine WP.S1 ?_ | refine WP.B1 ?_ | refine WP.R1 ?_))
  refine RL.box rfl rfl (fun b1 m1 hb1 hC1 => ⟨_, rfl, ?_⟩)
  refine RL.box rfl rfl (fun b2 m2 hb2 hC2 => ⟨_, rfl, ?_⟩)
  have hE1 : Ext m [] m1 := hC1.new (by omega)
  have hE2 : Ext m1 [] m2 := hC2.new (by omega)
  have s1 := hC1.size
  refine RL.A1 T_ok rfl ?_
  refine RL.N1 ?_; (with_reducible repeat (first | refine QN.B1 ?_ | refine QN.N1 ?_ | refine WP.S1 ?_ | refine WP.B1 ?_ | refine WP.R1 ?_))
  refine RL.A1 T_ok rfl ?_
  refine RL.N1 ?_; (with_reducible repeat (first | refine QN.B1 ?_ | refine QN.N1 ?_ | refine WP.S1 ?_ | refine WP.B1 ?_ | refine WP.R1 ?_))
  refine WP.ret ?_; (with_reducible repeat (first | refine QN.tr ?_ | refine QN.br ?_))
  refine QN.ret1 rfl rfl ⟨_, rfl, b1, b2, rfl, by omega, by omega, hE1.trans hE2 (by simp), fun h => ⟨?_, hC2.here, (h.ext0 hE1).ext0 hE2⟩⟩
  obtain ⟨A, c, rfl, _, _⟩ := h.shape
  exact Blk.ext (cs := [.slice A l.length c]) hC1.here hE2 (by simp)
def Trn.le (x y : Trn) : Prop := x.c < y.c ∨ (x.c = y.c ∧ x.f ≤ y.f)
theorem ltOf_cfT (x y : Trn) : Go.Proofs.ltOf cfT x y = true ↔ x.c < y.c ∨ (x.c = y.c ∧ x.f < y.f) := by
  unfold Go.Proofs.ltOf
  rw [decide_eq_true_eq]
  unfold cfT
  split
  · rename_i h; rw [cmpN_zero] at h; rw [cmpN_neg]; omega
  · rename_i h; rw [cmpN_zero] at h; rw [cmpN_neg]; omega
theorem swoT : Go.Sort.SWO (Go.Proofs.ltOf cfT) where
  irrefl x := by rw [← Bool.not_eq_true, ltOf_cfT]; omega
  trans x y z h1 h2 := by rw [ltOf_cfT] at *; omega
  ntrans x y z h1 h2 := by
    rw [← Bool.not_eq_true, ltOf_cfT] at *; omega
instance : Inhabited Trn := ⟨⟨0, 0, 0, 0⟩⟩
theorem tC_len (x : Trn) : (tC x).length = 4 := rfl
theorem tC_one (x : Trn) : ∀ v ∈ tC x, v.oneCell' = true := by intro v hv; simp [tC] at hv; rcases hv with rfl | rfl | rfl | rfl <;> rfl
theorem sortT_c (m : World) (S : List Nat) (v : Value) (l : List Trn) (h : Ev.Own m S 53 4 v l.length (l.flatMap tC)) (hl : l.length < 1000000000) :
    FnR Tryd.prog 31 [v, .func (.func 32) #[] #[]] m fun r m' => r = .tuple #[] ∧ Ext m S m' ∧ ∃ l' : List Trn, l'.Perm l ∧ l'.Pairwise Trn.le ∧ Ev.Own m' S 53 4 v l'.length (l'.flatMap tC) := by
  refine FnR.mono (sortFunc_run Tryd.sortT 4 (by omega) Tryd.isAgg53 Tryd.sizeOf53 tC tC_len tC_one cfT swoT 32 ⟨_, Tryd.func32, by kernel_rfl, by kernel_rfl⟩ ⟨_, Tryd.func31, by kernel_rfl, by kernel_rfl⟩ (fun W x y => cmpT_c W x y) h (by omega)) ?_
  rintro r m' ⟨rfl, hE, l', h1, h2, h3⟩
  refine ⟨rfl, hE, l', h1, h2.imp (fun {a b} hab => ?_), h3⟩
  rw [← Bool.not_eq_true, ltOf_cfT] at hab
  simp only [Trn.le]; omega
end Go.Proofs.YtmjpcaiehfimgaaDoor
end
