/- Texts that belong together. -/
import Derived.Test.YtgpgladbdoimdaaGreatDoorMAncV6
import Derived.Shelf.SlSortCmp.WholeK
import Derived.Shelf.SlSortCmp.NoneTotal
import Derived.Shelf.SlGeneric
import Derived.Shelf.SlLaysF0
import Derived.Ground.SlsfProg
import Derived.Ground.NamesProg
import Derived.Shelf.Lays
import Derived.Test.YtgpgladbdoimdaaGreatDoorProg
section
namespace Go.Ev
open Go.RowKit Go.Sort Go.Shelf Go.Proofs
theorem grow_of_ext {W m' w' : World} (hE : Ext W [] m') (hs : Sim m' w') : ∃ q os', w' = grow (W.drewN q) os' := by
  refine ⟨w'.drawn - W.drawn, w'.heap.extract W.heap.size w'.heap.size, ?_⟩
  have h1 : W.drawn ≤ w'.drawn := Nat.le_trans hE.drawn.1 hs.drawn
  have h2 : W.heap ++ w'.heap.extract W.heap.size w'.heap.size = w'.heap := by
    have hsz : W.heap.size ≤ w'.heap.size := by rw [hs.heap]; exact hE.size
    apply Array.ext
    · simp; omega
    · intro i h3 h4
      by_cases hi : i < W.heap.size
      · rw [Array.getElem_append_left hi]
        have := hE.far i hi (by simp)
        rw [← hs.heap] at this
        rw [Array.getElem?_eq_getElem hi, Array.getElem?_eq_getElem h4] at this
        exact (Option.some.inj this).symm
      · rw [Array.getElem_append_right (by omega), Array.getElem_extract]
        congr 1; omega
  obtain ⟨h, t, d, o, u⟩ := w'
  obtain ⟨h', t', d', o', u'⟩ := W
  have e1 : t = t' := hs.tape.trans hE.tape
  have e2 : o = o' := hs.os.trans hE.os
  have e3 : u = u' := hs.output.trans hE.output
  subst e1; subst e2; subst e3
  simp only at h1 h2
  unfold grow World.drewN
  simp only
  rw [h2]
  congr 1; omega
theorem _root_.Go.Ev.Own.putK {m : World} {S : List Nat} {t : TypeId} {sz : Nat} {v : Value} {n j k : Nat} {xs : List Value} (h : Own m S t sz v n xs) (hk : 0 < k) (hj : j + k ≤ n * sz) :
    ∃ g cap cur, v = .slice (some ⟨g, 0, none⟩) n cap ∧ Blk m g t cur ∧ S = [g] ∧ j + k ≤ cur.length ∧ ∀ m' vs, vs.length = k → Chg m g (.cells (cur.take j ++ vs ++ cur.drop (j + k)).toArray t (0, 0)) m' → Own m' S t sz v n (xs.take j ++ vs ++ xs.drop (j + k)) := by
  have hn : 0 < n := by
    rcases Nat.eq_zero_or_pos n with h0 | h0
    · subst h0; simp at hj; omega
    · exact h0
  obtain ⟨g, cap, cur, rfl, hB, hcap, hcm, hcl, hct, rfl⟩ := h.at_ hn
  have hlen := h.1
  have hjc : j + k ≤ cur.length := by rw [hcl]; exact Nat.le_trans hj (Nat.mul_le_mul_right _ hcap)
  obtain ⟨rest, rfl⟩ : ∃ rest, cur = xs ++ rest := ⟨cur.drop (n * sz), by rw [← hct, List.take_append_drop]⟩
  refine ⟨g, cap, _, rfl, hB, rfl, hjc, fun m' vs hv hC => ?_⟩
  have e1 : (xs ++ rest).take j = xs.take j := List.take_append_of_le_length (by omega)
  have e2 : (xs ++ rest).drop (j + k) = xs.drop (j + k) ++ rest := List.drop_append_of_le_length (by omega)
  have e3 : (xs.take j ++ vs ++ xs.drop (j + k)).length = n * sz := by simp [hv]; omega
  rw [e1, e2] at hC
  refine ⟨e3, .inr ⟨g, cap, _, rfl, hC.blk, hcap, hcm, ?_, ?_, rfl⟩⟩
  · rw [← hcl]
    simp only [List.length_append, List.length_take, List.length_drop, hv]; omega
  · rw [← List.append_assoc, ← e3, List.take_left]
section
variable {α : Type} [Inhabited α]
omit [Inhabited α] in
theorem flatMap_get (enc : α → List Value) (k : Nat) (hk : ∀ x, (enc x).length = k) : ∀ (l : List α) (i j : Nat), j < k → (h : i < l.length) → (l.flatMap enc)[i * k + j]? = (enc l[i])[j]?
  | x :: l, 0, j, hj, _ => by
    rw [List.flatMap_cons, List.getElem?_append_left (by rw [hk]; omega)]
    simp
  | x :: l, i + 1, j, hj, h => by
    rw [List.flatMap_cons, List.getElem?_append_right (by rw [hk, Nat.succ_mul]; omega), hk]
    rw [show (i + 1) * k + j - k = i * k + j by rw [Nat.succ_mul]; omega]
    rw [flatMap_get enc k hk l i j hj (by simpa using h)]
    simp
omit [Inhabited α] in
theorem flatMap_len (enc : α → List Value) (k : Nat) (hk : ∀ x, (enc x).length = k) : ∀ l : List α, (l.flatMap enc).length = l.length * k
  | [] => by simp
  | x :: l => by rw [List.flatMap_cons, List.length_append, hk, flatMap_len enc k hk l, List.length_cons, Nat.succ_mul, Nat.add_comm]
theorem flatK_list (enc : α → List Value) (k : Nat) (hk : ∀ x, (enc x).length = k) (hk0 : 0 < k) (d : Array α) : flatK enc k d = (d.toList.flatMap enc).toArray := by
  apply ext_get!
  · have h9 := flatMap_len enc k hk d.toList
    rw [show d.toList.length = d.size from Array.length_toList] at h9
    rw [size_flatK, ← h9]
    exact (List.size_toArray ..).symm
  · intro t ht
    rw [size_flatK] at ht
    rw [get_flatK _ _ _ _ ht]
    have hq : t / k < d.toList.length := by rw [Array.length_toList]; exact Nat.div_lt_of_lt_mul (by rw [Nat.mul_comm]; exact ht)
    have hm : t % k < k := Nat.mod_lt _ hk0
    have h1 := flatMap_get enc k hk d.toList (t / k) (t % k) hm hq
    rw [Nat.mul_comm, Nat.div_add_mod] at h1
    have h2 : t < (d.toList.flatMap enc).length := by rw [flatMap_len enc k hk, Array.length_toList]; exact ht
    rw [List.getElem?_eq_getElem h2, List.getElem?_eq_getElem (by rw [hk]; exact hm)] at h1
    rw [getElem!_pos (d.toList.flatMap enc).toArray t (by simpa using h2)]
    have h3 : d[t / k]! = d.toList[t / k] := by rw [getElem!_pos d _ (by simpa using hq)]; simp
    rw [h3, getElem!_pos (enc d.toList[t / k]) _ (by rw [hk]; exact hm)]
    simpa using (Option.some.inj h1).symm
theorem putCells_list (F : List Value) (cur : List Value) (h : F.length ≤ cur.length) : putCells id 0 F.toArray cur.toArray = (F ++ cur.drop F.length).toArray := by
  unfold putCells
  apply Array.ext
  · simp; omega
  · intro i h1 h2
    simp only [Array.getElem_mapIdx, Nat.zero_le, true_and, Nat.zero_add, List.size_toArray, Nat.sub_zero, id]
    by_cases hi : i < F.length
    · rw [if_pos hi, getElem!_pos F.toArray i (by simpa using hi)]
      simp [List.getElem_append_left hi]
    · rw [if_neg hi]
      simp [List.getElem_append_right (Nat.le_of_not_lt hi)]
      congr 1; omega
theorem sortFunc_run {P : Program} {ρ : Ren} (L : SlLaysF0.n6 P ρ) (k : Nat) (hk0 : 0 < k) (aE : ∀ w, (isAgg (ρ.t 24)).run P w = .ok true w) (zE : ∀ w, (Go.sizeOf (ρ.t 24)).run P w = .ok k w) (enc : α → List Value) (hk : ∀ x, (enc x).length = k) (h1 : ∀ x, ∀ v ∈ enc x, v.oneCell' = true)
    (cf : α → α → Int) (hO : SWO (ltOf cf)) (g : Nat) (hcg : Callable P g) (hcs : Callable P (ρ.f 6)) (hcmp : ∀ W x y, FnR P g [.agg (enc x).toArray, .agg (enc y).toArray] W fun r m' => r = .int .i64 (cf x y) ∧ Ext W [] m')
    {m : World} {S : List Nat} {te : TypeId} {v : Value} {l : List α} (hown : Own m S te k v l.length (l.flatMap enc)) (hl : l.length < 4611686018427387904) :
    FnR P (ρ.f 6) [v, .func (.func g) #[] #[]] m fun r m' => r = .tuple #[] ∧ Ext m S m' ∧ ∃ l' : List α, l'.Perm l ∧ l'.Pairwise (fun x y => ltOf cf y x = false) ∧ Own m' S te k v l'.length (l'.flatMap enc) := by
  have eg : ∀ args w, (callFunc g args).run P w = .ok (.enter g args) w := fun args w => callFunc_run hcg args w
  refine ⟨hcs, fun w hs => ?_⟩
  by_cases hn0 : l.length = 0
  · have hl0 : l = [] := List.eq_nil_of_length_eq_zero hn0
    subst hl0
    obtain ⟨A, c, rfl, _⟩ := hown.shape
    refine (AnyF.slices_SortFunc_none L A c (.func (.func g) #[] #[]) w).mono ?_
    rintro e w' ⟨rfl, rfl⟩
    exact ⟨m, hs, _, rfl, rfl, Ext.refl _ _, [], List.Perm.refl _, List.Pairwise.nil, hown⟩
  obtain ⟨b, cap, cur, rfl, hB, hnc, hcm, hcl, htake, rfl⟩ := hown.at_ (by omega)
  have hw : w.heap[b]? = some (.cells cur.toArray te (0, 0)) := by rw [hs.heap]; exact hB
  have hfl := flatMap_len enc k hk l
  have hcur : (l.flatMap enc).length ≤ cur.length := by rw [hfl, hcl]; exact Nat.mul_le_mul_right _ hnc
  have hF := flatK_list enc k hk hk0 l.toArray
  have hH : HoldsK enc k w b 0 l.toArray := by
    intro j hj
    rw [size_flatK, List.size_toArray] at hj
    rw [hF]
    have hj' : j < (l.flatMap enc).length := by rw [hfl]; exact hj
    have hjc : j < cur.length := by omega
    have hx : cur[j] = (l.flatMap enc)[j] := by
      have : (cur.take (l.length * k))[j]? = (l.flatMap enc)[j]? := by rw [htake]
      rw [List.getElem?_take, if_pos hj, List.getElem?_eq_getElem hjc, List.getElem?_eq_getElem hj'] at this
      exact Option.some.inj this
    constructor
    · simp only [Nat.zero_add, World.cell?, hw, id]
      rw [getElem!_pos _ j (by simpa using hj')]
      simp [hjc, hx]
    · simp only [Nat.zero_add, World.frozen?, hw]
      simp
  have hlays : CmpLays P g #[] enc k cf b 0 l.toArray.size w := fun q os dk _ x y => by
    have h2 := (hcmp (sortWorldK enc k w b 0 q dk os) x y).2 _ (Sim.refl _)
    refine Calls.mono h2 ?_
    rintro e w' ⟨m', hs', r, rfl, rfl, hE⟩
    exact ⟨rfl, grow_of_ext hE hs'⟩
  have hcall := AnyQ.slices_SortFunc L k aE zE enc hk h1 cf hO g #[] b 0 cap l.toArray w eg hlays hH (by rw [hs.size]; exact hB.lt) (by simpa using hl)
  simp only [List.size_toArray] at hcall
  refine Calls.mono hcall ?_
  rintro e w' ⟨rfl, d', q, os, hp, hsrt, rfl⟩
  obtain ⟨hp1, _, hp2⟩ := hp
  have hsz' : d'.size = l.length := by simpa using hp1
  have hperm : d'.toList.Perm l := by
    have e1 : (d'.extract 0 l.length).toList = d'.toList := by simp [← hsz']
    have e2 : (l.toArray.extract 0 l.length).toList = l := by simp
    rw [e1, e2] at hp2; exact hp2
  have hF' := flatK_list enc k hk hk0 d'
  have hlen' : (d'.toList.flatMap enc).length = (l.flatMap enc).length := by rw [flatMap_len enc k hk, hfl, Array.length_toList, hsz']
  -- the world behind
  have hheap : (putRowK enc k (Go.Sort.ahead w q) b 0 d').heap[b]? = some (.cells (d'.toList.flatMap enc ++ cur.drop (l.flatMap enc).length).toArray te (0, 0)) := by
    unfold putRowK putRow mapBlock
    rw [hF']
    show (w.heap.modify b _)[b]? = _
    rw [Array.getElem?_modify, if_pos rfl, hw]
    simp only [Option.map_some, onCells]
    rw [putCells_list _ _ (by rw [hlen']; exact hcur), hlen']
  have hother : ∀ j, j ≠ b → (putRowK enc k (Go.Sort.ahead w q) b 0 d').heap[j]? = w.heap[j]? := fun j hj => by
    unfold putRowK putRow mapBlock
    show (w.heap.modify b _)[j]? = _
    rw [Array.getElem?_modify, if_neg (Ne.symm hj)]
  have hsize : (putRowK enc k (Go.Sort.ahead w q) b 0 d').heap.size = w.heap.size := by
    unfold putRowK putRow mapBlock
    show (w.heap.modify b _).size = _
    simp
  have hgrow : ∀ j, j < w.heap.size → (sortWorldK enc k w b 0 q d' os).heap[j]? = (putRowK enc k (Go.Sort.ahead w q) b 0 d').heap[j]? := fun j hj => by
    unfold sortWorldK grow
    show (_ ++ os)[j]? = _
    rw [Array.getElem?_append_left (by rw [hsize]; exact hj)]
  have hbw : b < w.heap.size := by rw [hs.size]; exact hB.lt
  refine ⟨low m (sortWorldK enc k w b 0 q d' os), Sim.low _ _, _, rfl, rfl, ?_, d'.toList, hperm, ?_, ?_⟩
  · refine ⟨?_, ?_, ?_, ?_, fun j hj hn => ?_, ?_⟩
    · exact hs.os
    · exact hs.tape
    · exact hs.output
    · show m.heap.size ≤ (_ ++ os).size
      rw [Array.size_append, hsize, hs.size]; omega
    · rw [low_heap, hgrow j (by rw [hs.size]; exact hj), hother j (by simpa using hn), hs.heap]
    · refine dle.low ?_
      show m.drawn ≤ w.drawn + q
      have := hs.drawn; omega
  · rw [List.pairwise_iff_getElem]
    intro i j hi hj hij
    have := hsrt i j (Nat.zero_le _) hij (by simpa [hsz'] using hj)
    rw [getElem!_pos d' i (by simpa using hi), getElem!_pos d' j (by simpa using hj)] at this
    simpa using this
  · have hlen2 : d'.toList.length = l.length := by rw [Array.length_toList, hsz']
    refine ⟨by rw [hlen', hfl, hlen2], .inr ⟨b, cap, d'.toList.flatMap enc ++ cur.drop (l.flatMap enc).length, by rw [hlen2], ?_, by rw [hlen2]; exact hnc, hcm, ?_, ?_, rfl⟩⟩
    · show (sortWorldK enc k w b 0 q d' os).heap[b]? = _
      rw [hgrow b hbw, hheap]
    · rw [List.length_append, hlen', List.length_drop, hcl]
      rw [hcl] at hcur; omega
    · rw [hlen2, ← hfl, ← hlen']
      exact List.take_left
end
end Go.Ev
end
section
namespace Go.Proofs.YtgpgladbdoimdaaGreatDoor
open Go.RowKit Go.Ev Go.Ids Go.Mrg
def cC (x : Clk) : List Value := [.int .u64 x.c, .int .u64 x.k]
def Cs (m : World) (M : List Nat) (v : Value) (l : List Clk) : Prop := Sl m M 2 v (l.flatMap cC)
end Go.Proofs.YtgpgladbdoimdaaGreatDoor
end
section
namespace Go.Proofs.YtgpgladbdoimdaaGreatDoor
open Go.RowKit Go.Ev Go.Ids Go.Mrg Go.Sort
end Go.Proofs.YtgpgladbdoimdaaGreatDoor
end
section
namespace Go.Proofs.YtgpgladbdoimdaaGreatDoor
open Go.RowKit Go.Ev Go.Ids Go.Mrg Go.Sort
end Go.Proofs.YtgpgladbdoimdaaGreatDoor
end
section
namespace Go.Proofs.YtgpgladbdoimdaaGreatDoor
open Go.RowKit Go.Ev Go.Ids Go.Mrg Go.Sort
end Go.Proofs.YtgpgladbdoimdaaGreatDoor
end
section
namespace Go.Proofs.YtgpgladbdoimdaaGreatDoor
open Go.RowKit Go.Ev Go.Ids Go.Mrg Go.Sort
end Go.Proofs.YtgpgladbdoimdaaGreatDoor
end
section
namespace Go.Proofs
open Go.Shelf
def Tryz.sortT_ren : Go.Shelf.Ren := ⟨fun | 6 => 170 | 15 => 214 | 14 => 213 | 28 => 242 | 29 => 243 | 20 => 234 | 21 => 235 | 22 => 236 | 23 => 237 | 24 => 238 | 25 => 239 | 26 => 240 | 27 => 241 | 46 => 265 | 47 => 266 | 48 => 267 | 49 => 268 | 50 => 269 | 57 => 283 | n => n, fun | 22 => 45 | 24 => 122 | 25 => 238 | 3 => 3 | 39 => 127 | 0 => 0 | 53 => 65 | 55 => 28 | 4 => 4 | 46 => 288 | 45 => 287 | 50 => 39 | 5 => 5 | 9 => 9 | 66 => 311 | 70 => 314 | 76 => 326 | 77 => 327 | n => n, fun | n => n⟩
def Tryz.sortR_ren : Go.Shelf.Ren := ⟨fun | 6 => 180 | 15 => 214 | 14 => 218 | 28 => 242 | 29 => 243 | 20 => 244 | 21 => 245 | 22 => 246 | 23 => 247 | 24 => 248 | 25 => 249 | 26 => 250 | 27 => 251 | 46 => 270 | 47 => 266 | 48 => 267 | 49 => 271 | 50 => 272 | 57 => 284 | n => n, fun | 22 => 46 | 24 => 167 | 25 => 248 | 3 => 3 | 39 => 127 | 0 => 0 | 53 => 65 | 55 => 28 | 4 => 4 | 46 => 288 | 45 => 287 | 50 => 39 | 5 => 5 | 9 => 9 | 66 => 311 | 70 => 314 | 76 => 326 | 77 => 327 | n => n, fun | n => n⟩
theorem Tryz.sortR : Go.Proofs.SlLaysF0.n6 Tryz.prog Tryz.sortR_ren := {
  mixed := by kernel_rfl
  f6 := ⟨Tryz.f180.name, by decide, Tryz.func180.trans (congrArg some (by kernel_rfl))⟩
  f14 := ⟨Tryz.f218.name, by decide, Tryz.func218.trans (congrArg some (by kernel_rfl))⟩
  f15 := Tryz.func214.trans (congrArg some (by kernel_rfl))
  f20 := ⟨Tryz.f244.name, by decide, Tryz.func244.trans (congrArg some (by kernel_rfl))⟩
  f21 := ⟨Tryz.f245.name, by decide, Tryz.func245.trans (congrArg some (by kernel_rfl))⟩
  f22 := ⟨Tryz.f246.name, by decide, Tryz.func246.trans (congrArg some (by kernel_rfl))⟩
  f23 := ⟨Tryz.f247.name, by decide, Tryz.func247.trans (congrArg some (by kernel_rfl))⟩
  f24 := ⟨Tryz.f248.name, by decide, Tryz.func248.trans (congrArg some (by kernel_rfl))⟩
  f25 := ⟨Tryz.f249.name, by decide, Tryz.func249.trans (congrArg some (by kernel_rfl))⟩
  f26 := ⟨Tryz.f250.name, by decide, Tryz.func250.trans (congrArg some (by kernel_rfl))⟩
  f27 := ⟨Tryz.f251.name, by decide, Tryz.func251.trans (congrArg some (by kernel_rfl))⟩
  f28 := Tryz.func242.trans (congrArg some (by kernel_rfl))
  f29 := Tryz.func243.trans (congrArg some (by kernel_rfl))
  f46 := ⟨Tryz.f270.name, by decide, Tryz.func270.trans (congrArg some (by kernel_rfl))⟩
  f47 := Tryz.func266.trans (congrArg some (by kernel_rfl))
  f48 := Tryz.func267.trans (congrArg some (by kernel_rfl))
  f49 := ⟨Tryz.f271.name, by decide, Tryz.func271.trans (congrArg some (by kernel_rfl))⟩
  f50 := ⟨Tryz.f272.name, by decide, Tryz.func272.trans (congrArg some (by kernel_rfl))⟩
  f57 := ⟨Tryz.f284.name, by decide, Tryz.func284.trans (congrArg some (by kernel_rfl))⟩
  t0 := Tryz.underlying0
  a0 := Tryz.isAgg0
  z0 := Tryz.sizeOf0
  v0 := Tryz.zeroValue0
  t3 := Tryz.underlying3
  a3 := Tryz.isAgg3
  z3 := Tryz.sizeOf3
  v3 := Tryz.zeroValue3
  t4 := Tryz.underlying4
  a4 := Tryz.isAgg4
  z4 := Tryz.sizeOf4
  v4 := Tryz.zeroValue4
  t5 := Tryz.underlying5
  a5 := Tryz.isAgg5
  z5 := Tryz.sizeOf5
  v5 := Tryz.zeroValue5
  t9 := Tryz.underlying9
  a9 := Tryz.isAgg9
  z9 := Tryz.sizeOf9
  v9 := Tryz.zeroValue9
  t22 := Tryz.underlying46
  a22 := Tryz.isAgg46
  z22 := Tryz.sizeOf46
  v22 := Tryz.zeroValue46
  t25 := Tryz.underlying248
  a25 := Tryz.isAgg248
  z25 := Tryz.sizeOf248
  v25 := Tryz.zeroValue248
  t39 := Tryz.underlying127
  a39 := Tryz.isAgg127
  z39 := Tryz.sizeOf127
  v39 := Tryz.zeroValue127
  t45 := Tryz.underlying287
  a45 := Tryz.isAgg287
  z45 := Tryz.sizeOf287
  v45 := Tryz.zeroValue287
  t46 := Tryz.underlying288
  a46 := Tryz.isAgg288
  z46 := Tryz.sizeOf288
  v46 := Tryz.zeroValue288
  t50 := Tryz.underlying39
  a50 := Tryz.isAgg39
  z50 := Tryz.sizeOf39
  v50 := Tryz.zeroValue39
  t53 := Tryz.underlying65
  a53 := Tryz.isAgg65
  z53 := Tryz.sizeOf65
  v53 := Tryz.zeroValue65
  t55 := Tryz.underlying28
  a55 := Tryz.isAgg28
  z55 := Tryz.sizeOf28
  v55 := Tryz.zeroValue28
  t66 := Tryz.underlying311
  a66 := Tryz.isAgg311
  z66 := Tryz.sizeOf311
  v66 := Tryz.zeroValue311
  t70 := Tryz.underlying314
  a70 := Tryz.isAgg314
  z70 := Tryz.sizeOf314
  v70 := Tryz.zeroValue314
  t76 := Tryz.underlying326
  a76 := Tryz.isAgg326
  z76 := Tryz.sizeOf326
  v76 := Tryz.zeroValue326
  t77 := Tryz.underlying327
  a77 := Tryz.isAgg327
  z77 := Tryz.sizeOf327
  v77 := Tryz.zeroValue327 }
def Tryz.valid_ren : Go.Shelf.Ren := ⟨fun | 196 => 221 | 259 => 252 | n => n, fun | 9 => 9 | 4 => 4 | 3 => 3 | 5 => 5 | 12 => 12 | 119 => 301 | 0 => 0 | 46 => 127 | 139 => 304 | 138 => 303 | 53 => 28 | n => n, fun | 3 => 1 | 4 => 2 | n => n⟩
theorem Tryz.valid : Go.Proofs.Lays.n196 Tryz.prog Tryz.valid_ren := {
  mixed := by kernel_rfl
  f196 := Tryz.func221.trans (congrArg some (by kernel_rfl))
  f259 := Tryz.func252.trans (congrArg some (by kernel_rfl))
  t0 := Tryz.underlying0
  a0 := Tryz.isAgg0
  z0 := Tryz.sizeOf0
  v0 := Tryz.zeroValue0
  t3 := Tryz.underlying3
  a3 := Tryz.isAgg3
  z3 := Tryz.sizeOf3
  v3 := Tryz.zeroValue3
  t4 := Tryz.underlying4
  a4 := Tryz.isAgg4
  z4 := Tryz.sizeOf4
  v4 := Tryz.zeroValue4
  t5 := Tryz.underlying5
  a5 := Tryz.isAgg5
  z5 := Tryz.sizeOf5
  v5 := Tryz.zeroValue5
  t9 := Tryz.underlying9
  a9 := Tryz.isAgg9
  z9 := Tryz.sizeOf9
  v9 := Tryz.zeroValue9
  t12 := Tryz.underlying12
  a12 := Tryz.isAgg12
  z12 := Tryz.sizeOf12
  v12 := Tryz.zeroValue12
  t46 := Tryz.underlying127
  a46 := Tryz.isAgg127
  z46 := Tryz.sizeOf127
  v46 := Tryz.zeroValue127
  t53 := Tryz.underlying28
  a53 := Tryz.isAgg28
  z53 := Tryz.sizeOf28
  v53 := Tryz.zeroValue28
  t119 := Tryz.underlying301
  a119 := Tryz.isAgg301
  z119 := Tryz.sizeOf301
  t138 := Tryz.underlying303
  a138 := Tryz.isAgg303
  z138 := Tryz.sizeOf303
  v138 := Tryz.zeroValue303
  t139 := Tryz.underlying304
  a139 := Tryz.isAgg304
  z139 := Tryz.sizeOf304
  v139 := Tryz.zeroValue304
  g3 := by kernel_rfl
  g4 := by kernel_rfl }
def Tryz.count_ren : Go.Shelf.Ren := ⟨fun | 195 => 222 | n => n, fun | 9 => 9 | 3 => 3 | 0 => 0 | 4 => 4 | n => n, fun | n => n⟩
theorem Tryz.count : Go.Proofs.Lays.n195 Tryz.prog Tryz.count_ren := {
  mixed := by kernel_rfl
  f195 := Tryz.func222.trans (congrArg some (by kernel_rfl))
  t0 := Tryz.underlying0
  a0 := Tryz.isAgg0
  z0 := Tryz.sizeOf0
  v0 := Tryz.zeroValue0
  t3 := Tryz.underlying3
  a3 := Tryz.isAgg3
  z3 := Tryz.sizeOf3
  v3 := Tryz.zeroValue3
  t4 := Tryz.underlying4
  a4 := Tryz.isAgg4
  z4 := Tryz.sizeOf4
  v4 := Tryz.zeroValue4
  t9 := Tryz.underlying9
  a9 := Tryz.isAgg9
  z9 := Tryz.sizeOf9
  v9 := Tryz.zeroValue9 }
end Go.Proofs
end
section
namespace Go.Proofs.YtgpgladbdoimdaaGreatDoor
open Go.RowKit Go.Ev Go.Ids
theorem cmpN_neg (a b : Nat) : cmpN a b < 0 ↔ a < b := by unfold cmpN; split; omega; split <;> omega
theorem cmpN_zero (a b : Nat) : cmpN a b = 0 ↔ a = b := by unfold cmpN; split; omega; split <;> omega
theorem ltOf_cfR (x y : Rng) : Go.Proofs.ltOf cfR x y = x.lt y := by
  unfold Go.Proofs.ltOf
  rw [Bool.eq_iff_iff, decide_eq_true_eq, lt_iff]
  unfold cfR
  split
  · rename_i h; rw [cmpN_zero] at h; rw [cmpN_neg]; omega
  · rename_i h; rw [cmpN_zero] at h; rw [cmpN_neg]; omega
theorem swoR : Go.Sort.SWO (Go.Proofs.ltOf cfR) where
  irrefl x := by rw [ltOf_cfR]; simp [Rng.lt]
  trans x y z h1 h2 := by rw [ltOf_cfR, lt_iff] at *; omega
  ntrans x y z h1 h2 := by
    rw [ltOf_cfR, ← Bool.not_eq_true, lt_iff] at *; omega
instance : Inhabited Rng := ⟨⟨0, 0, 0⟩⟩
theorem rC_len (x : Rng) : (rC x).length = 3 := rfl
theorem rC_one (x : Rng) : ∀ v ∈ rC x, v.oneCell' = true := by intro v hv; simp [rC] at hv; rcases hv with rfl | rfl | rfl <;> rfl
theorem sortR_c (m : World) (S : List Nat) (v : Value) (l : List Rng) (h : Ev.Own m S 167 3 v l.length (l.flatMap rC)) (hl : l.length < 1000000000) :
    FnR Tryz.prog 180 [v, .func (.func 181) #[] #[]] m fun r m' => r = .tuple #[] ∧ Ext m S m' ∧ ∃ l' : List Rng, l'.Perm l ∧ l'.Pairwise Rng.le ∧ Ev.Own m' S 167 3 v l'.length (l'.flatMap rC) := by
  refine FnR.mono (sortFunc_run Tryz.sortR 3 (by omega) Tryz.isAgg167 Tryz.sizeOf167 rC rC_len rC_one cfR swoR 181 ⟨_, Tryz.func181, by kernel_rfl, by kernel_rfl⟩ ⟨_, Tryz.func180, by kernel_rfl, by kernel_rfl⟩ (fun W x y => cmpR_c W x y) h (by omega)) ?_
  rintro r m' ⟨rfl, hE, l', h1, h2, h3⟩
  refine ⟨rfl, hE, l', h1, h2.imp (fun {a b} hab => ?_), h3⟩
  rw [ltOf_cfR] at hab
  exact le_of_not_lt (by rw [hab]; decide)
end Go.Proofs.YtgpgladbdoimdaaGreatDoor
end
section
namespace Go.Proofs.YtgpgladbdoimdaaGreatDoor
open Go.RowKit Go.Ev Go.Ids
theorem rsC_app (a b : List Rng) : a.flatMap rC ++ b.flatMap rC = (a ++ b).flatMap rC := by simp
theorem rsC_setT (a : List Rng) (y : Rng) (z : Nat) : ((a ++ [y]).flatMap rC).set (a.length * 3 + 2) (.int .u64 z) = (a ++ [{ y with t := z }]).flatMap rC := by
  rw [List.flatMap_append, List.flatMap_append, List.set_append_right _ _ (by rw [rsC_len]; omega), rsC_len]
  have : a.length * 3 + 2 - a.length * 3 = 2 := by omega
  rw [this]
  rfl
def CleanI (m : World) (b1 b2 b3 : Nat) (v : Value) (l : List Rng) (pre : List Rng) (a : World) : Prop :=
  ∃ S ov, Blk a b3 46 [ov] ∧ Ev.Own a S 167 3 ov pre.length (pre.flatMap rC) ∧ (∀ k ∈ S, m.heap.size ≤ k ∧ k ≠ b3 ∧ k ≠ b1 ∧ k ≠ b2) ∧ Ext m [] a ∧ RK b1 b2 v l 93 a
theorem CleanI.kc {m a b : World} {b1 b2 b3 B : Nat} {v : Value} {l pre : List Rng} (h : CleanI m b1 b2 b3 v l pre a) (hK : Kc B a b) (hB : m.heap.size ≤ B) : CleanI m b1 b2 b3 v l pre b := by
  obtain ⟨S, ov, h1, h2, h3, h4, h5, h6, h7⟩ := h
  exact ⟨S, ov, h1.kc hK, h2.kc hK, h3, h4.of_kc hK hB, h5.kc hK, h6.kc hK, Sl.kc h7 hK⟩
theorem clean_c (m : World) (v : Value) (l : List Rng) (h : Rs m [] v l) (hl : l.length < 500000000) :
    FnR Tryz.prog 130 [v] m fun r m' => ∃ S', Ev.Own m' S' 167 3 r (clean l).length ((clean l).flatMap rC) ∧ New m S' m' := by
  obtain ⟨A, c, rfl, _, _⟩ := h.shape
  refine FnE.enterM ⟨_, Tryz.func130, by kernel_rfl, by kernel_rfl⟩ Tryz.func130 rfl rfl ?_
  (with_reducible repeat (first | refine WP.S1 ?_ | refine WP.B1 ?_ | refine WP.R1 ?_))
  refine RL.A1 T_ok rfl ?_
  refine RL.N1 (QN.N1 ?_)
  refine WP.scope ?_
  (with_reducible repeat (first | refine WP.S1 ?_ | refine WP.B1 ?_ | refine WP.R1 ?_))
  refine RL.alloc T_ok rfl rfl (fun b3 m1 hb3 hC1 => ⟨_, rfl, ?_⟩)
  have hB1 : Blk m1 b3 46 [.slice none 0 0] := hC1.blk
  have hE1 : Ext m [] m1 := hC1.new (by omega)
  have s1 := hC1.size
  refine RL.N1 ?_; (with_reducible repeat (first | refine QN.B1 ?_ | refine QN.N1 ?_ | refine WP.S1 ?_ | refine WP.B1 ?_ | refine WP.R1 ?_))
  refine RL.A1 T_ok rfl ?_
  refine RL.call (fi := []) (ca := []) rfl rfl rfl rfl (rights_c m1 (.slice A l.length c) l 93) ?_
  rintro _ m2 ⟨b1, b2, rfl, g1, g2, hE2, hRK⟩
  refine ⟨_, rfl, ?_⟩
  have hRK := hRK (h.ext0 hE1)
  have hB2 := hB1.ext hE2 (by simp)
  have hEm := hE1.trans hE2 (by simp)
  have lb1 := hRK.1.lt
  have lb2 := hRK.2.1.lt
  have lb3 := hB2.lt
  refine RL.sub (e' := [(3, .pointer (some ⟨b3, 0, none⟩)), (10, .func (.func 217) #[] #[.pointer (some ⟨b1, 0, none⟩), .pointer (some ⟨b2, 0, none⟩)])]) (Sub.C1 rfl (Sub.C1 rfl Sub.nil)) ?_
  refine RL.N1 ?_; (with_reducible repeat (first | refine QN.B1 ?_ | refine QN.N1 ?_ | refine WP.S1 ?_ | refine WP.B1 ?_ | refine WP.R1 ?_))
  refine WP.rangeFunc (ps := [11]) (gf := 217) (lb := [.pointer (some ⟨b1, 0, none⟩), .pointer (some ⟨b2, 0, none⟩)]) (fun x : Rng => [rV x]) rfl (rights1_c m2 b1 b2 (.slice A l.length c) l (by omega) 93 Rng.right (fun m1 x => right_c m1 x)) ⟨_, Tryz.func217, by kernel_rfl, by kernel_rfl⟩
    (CleanI m b1 b2 b3 (.slice A l.length c) l) (fun _ _ _ => False) (fun pre a b hi hK => hi.kc hK hEm.size) (fun _ _ _ _ hi _ => hi) (fun pre a ⟨_, _, _, _, _, _, hk⟩ => hk)
    ⟨[], .slice none 0 0, hB2, Own.empty _ _ _ _, (by simp), hEm, hRK⟩
    (fun x => [(11, rV x), (3, .pointer (some ⟨b3, 0, none⟩)), (10, .func (.func 217) #[] #[.pointer (some ⟨b1, 0, none⟩), .pointer (some ⟨b2, 0, none⟩)])]) (fun x => rfl) (fun x => rfl)
    (fun x b4 => [(4, .pointer (some ⟨b4, 0, none⟩)), (3, .pointer (some ⟨b3, 0, none⟩))]) (fun pre x b4 a => Blk a b4 167 (rC x) ∧ CleanI m b1 b2 b3 (.slice A l.length c) l pre a) (fun pre x y a b hi hK => ⟨hi.1.kc hK, hi.2.kc hK hEm.size⟩)
    ?_ ?_ ?_ ?_
  · -- the round's variable
    rintro lp pre x m3 hI hlen hsz
    refine WP.R1 ?_
    refine RL.alloc T_ok rfl rfl (fun b4 m4 hb4 hC4 => ⟨_, rfl, ?_⟩)
    have hE4 : Ext m3 [] m4 := hC4.new (by omega)
    refine RL.storeAgg T_ok (b := b4) (i := 0) (vs := rC x) (cs := [.int .u64 0, .int .u64 0, .int .u64 0]) hC4.blk rfl rfl rfl rfl rfl (by simp) (by simp [rC, Value.oneCell']) rfl ?_
    intro m5 hC5
    have hE5 : Ext m3 [] m5 := hE4.trans hC5.ext (fun q hq => .inr (by have h9 : q = b4 := (by simpa using hq); omega))
    exact RL.N1 (QN.asgEnd b4 (Sub.C1 rfl (Sub.C1 rfl Sub.nil)) hE5.kn0 ⟨hC5.blk, hI.kc hE5.kc hEm.size⟩)
  · -- one more
    rintro lp pre x b4 m3 ⟨hB4, S, ov, hB3, hO, hS, hE3, hRK3⟩ hlen hsz
    replace hlen : pre.length < l.length := hlen
    (with_reducible repeat (first | refine WP.S1 ?_ | refine WP.B1 ?_ | refine WP.R1 ?_))
    refine RL.load T_ok rfl rfl rfl (hB3.cell 0 rfl) rfl ?_
    refine RL.loadAgg T_ok (rC x) rfl rfl rfl (fun j u hu => by rw [add_block]; exact hB4.cell _ (by simpa using hu)) rfl ?_
    refine RL.append1 T_ok [.tmp 13] hO (us := [rV x]) (rC x) rfl rfl rfl rfl rfl rfl rfl rfl rfl (by simp [rV, rC, Value.cells]) (by simp [rV, Value.cells]) (rC_one x) (by unfold maxLen; omega) (by show (_ + 1) * 24 ≤ _; omega) ?_
    intro v4 m4 S4 hO4 hE4 hF4
    refine ⟨_, rfl, ?_⟩
    have hB34 := hB3.ext hE4 (fun hh => (hS _ hh).2.1 rfl)
    refine RL.store T_ok hB34 (i := 0) (v := v4) (by simp) rfl rfl rfl rfl hO4.one rfl ?_
    intro m5 hC5
    have l1 := hRK3.1.lt
    have l2 := hRK3.2.1.lt
    have l3 := hB3.lt
    have hS4 : ∀ k ∈ S4, m.heap.size ≤ k ∧ k ≠ b3 ∧ k ≠ b1 ∧ k ≠ b2 := fun k hk => by
      rcases hF4 k hk with h9 | h9
      · exact hS k h9
      · have := hE3.size; exact ⟨by omega, by omega, by omega, by omega⟩
    have hE5 : Ext m3 (b3 :: S) m5 := (hE4.mono (fun k hk _ => zO _ hk)).trans hC5.ext (fun k hk => .inl (by have h9 : k = b3 := (by simpa using hk); simp [h9]))
    have hE5m : Ext m [] m5 := hE3.trans hE5 (fun k hk => .inr (by
      rcases List.mem_cons.1 hk with rfl | hk
      · omega
      · exact (hS k hk).1))
    refine RL.N1 ?_
    (with_reducible repeat (first | refine QN.B1 ?_ | refine QN.N1 ?_))
    refine QN.rdNormal (hE5.kn (fun k hk _ _ => ?_)) ⟨S4, v4, hC5.blk, ?_, hS4, hE5m, hRK3.1.ext hE5 ?_, hRK3.2.1.ext hE5 ?_, h.ext0 hE5m⟩
    · rcases List.mem_cons.1 hk with rfl | hk
      · exact ⟨_, _, _, hB3⟩
      · exact hO.cells k hk
    · rw [List.length_append, List.flatMap_append]
      exact (hO4.ext hC5.ext (fun k hk => by have := (hS4 k hk).2.1; simpa using this))
    · intro hh
      rcases List.mem_cons.1 hh with h9 | h9
      · omega
      · exact (hS _ h9).2.2.1 rfl
    · intro hh
      rcases List.mem_cons.1 hh with h9 | h9
      · omega
      · exact (hS _ h9).2.2.2 rfl
  · -- sorted, then joined
    rintro D xs m3 hD rfl ⟨S, ov, hB3, hO, hS, hE3, _⟩ hk
    have hDS : ∀ (t : TypeId) (cs : List Value), ¬ Blk m3 D t cs := fun t cs hh => by rw [hh] at hk; cases hk
    have hDm : m.heap.size ≤ D := Nat.le_trans hEm.size hD
    have hDlt : D < m3.heap.size := (Array.getElem?_eq_some_iff.1 hk).1
    have hDnS : D ∉ S := fun hh => by
      obtain ⟨c1, t1, z1, h9⟩ := hO.cells D hh
      rw [h9] at hk; cases hk
    have hxl : (l.filter Rng.right).length ≤ l.length := List.length_filter_le _ _
    (with_reducible repeat (first | refine WP.S1 ?_ | refine WP.B1 ?_ | refine WP.R1 ?_))
    (with_reducible repeat (first | refine QN.B1 ?_ | refine QN.N1 ?_))
    (with_reducible repeat (first | refine WP.S1 ?_ | refine WP.B1 ?_ | refine WP.R1 ?_))
    refine RL.load T_ok rfl rfl rfl (hB3.cell 0 rfl) rfl ?_
    refine RL.call (fi := []) (ca := []) rfl rfl rfl rfl (sortR_c m3 S ov _ hO (by omega)) ?_
    rintro _ m4 ⟨rfl, hE4, l', hperm, hsort, hO4⟩
    refine ⟨_, rfl, ?_⟩
    have hB4 := hB3.ext hE4 (fun hh => (hS _ hh).2.1 rfl)
    have hk4 : m4.heap[D]? = some (.deferred (some [])) := (hE4.far D hDlt hDnS).trans hk
    have hE4m : Ext m [] m4 := hE3.trans hE4 (fun k hk => .inr (hS k hk).1)
    have hlen' : l'.length ≤ l.length := by rw [hperm.length_eq]; exact hxl
    obtain ⟨A', c', rfl, hc'⟩ := hO4.shape
    have hR4 : Rs m4 [] (.slice A' l'.length c') l' := hO4.sl (by simp)
    have hDlt4 : D < m4.heap.size := (Array.getElem?_eq_some_iff.1 hk4).1
    refine RL.N1 ?_; (with_reducible repeat (first | refine QN.B1 ?_ | refine QN.N1 ?_ | refine WP.S1 ?_ | refine WP.B1 ?_ | refine WP.R1 ?_))
    refine RL.A1 T_ok rfl ?_
    refine RL.N1 ?_; (with_reducible repeat (first | refine QN.B1 ?_ | refine QN.N1 ?_ | refine WP.S1 ?_ | refine WP.B1 ?_ | refine WP.R1 ?_))
    refine WP.label ?_
    refine QN.N1 ?_
    (with_reducible repeat (first | refine WP.S1 ?_ | refine WP.B1 ?_ | refine WP.R1 ?_))
    refine RL.load T_ok rfl rfl rfl (hB4.cell 0 rfl) rfl ?_
    refine RL.A1 T_ok rfl ?_
    refine RL.N1 ?_; (with_reducible repeat (first | refine QN.B1 ?_ | refine QN.N1 ?_ | refine WP.S1 ?_ | refine WP.B1 ?_ | refine WP.R1 ?_))
    refine (WP.loop (X := Nat × Value × List Nat) (fun x => [(18, .slice A' l'.length c'), (19, .int .i64 l'.length), (5, x.2.1), (20, .int .i64 x.1)])
      (fun x m' => x.1 ≤ l'.length ∧ Ev.Own m' x.2.2 167 3 x.2.1 ((l'.take x.1).foldl mg []).length (((l'.take x.1).foldl mg []).reverse.flatMap rC) ∧ New m4 x.2.2 m') (fun x => l'.length - x.1) (0, .slice none 0 0, [])
      (Sub.C1 rfl (Sub.C1 rfl (Sub.C1 rfl (Sub.C1 rfl Sub.nil)))) ⟨by simp, Own.empty _ _ _ _, Ext.refl _ _, FpNew.nil _ _⟩ ?_)
    rintro ⟨i, u, S5⟩ m5 ⟨hi, hO5, hN5⟩
    simp only at hi hO5 hN5
    (with_reducible repeat (first | refine WP.S1 ?_ | refine WP.B1 ?_ | refine WP.R1 ?_))
    refine RL.A1 T_ok rfl ?_
    refine RL.N1 ?_; (with_reducible repeat (first | refine QN.B1 ?_ | refine QN.N1 ?_ | refine WP.S1 ?_ | refine WP.B1 ?_ | refine WP.R1 ?_))
    refine WP.cond rfl (fun hc => ?_) (fun hc => ?_)
    · replace hc : i < l'.length := by have := of_decide_eq_true hc; simp only at this; omega
      obtain ⟨ad, rfl, hx⟩ := (hR4.ext0 hN5.1).cell i hc
      have hnext : (l'.take (i + 1)).foldl mg [] = mg ((l'.take i).foldl mg []) l'[i] := by rw [List.take_succ_eq_append_getElem hc, List.foldl_append]; rfl
      have hTl : ((l'.take i).foldl mg []).length ≤ l.length := by
        have h9 := foldl_mg_len (l'.take i) []
        have h8 := List.length_take_le i l'
        simp only [List.length_nil] at h9
        omega
      generalize (l'.take i).foldl mg [] = r at hO5 hnext hTl
      obtain ⟨x, hxe⟩ : ∃ x, l'[i] = x := ⟨_, rfl⟩
      rw [hxe] at hx hnext
      obtain ⟨A5, c5, rfl, hc5⟩ := hO5.shape
      refine WP.skip ?_; (with_reducible repeat (first | refine QN.B1 ?_ | refine QN.N1 ?_ | refine WP.S1 ?_ | refine WP.B1 ?_ | refine WP.R1 ?_))
      refine RL.indexAddr (k := i) T_ok rfl rfl rfl rfl rfl rfl rfl hc rfl ?_
      refine RL.loadAgg T_ok (rC x) rfl rfl rfl hx rfl ?_
      refine RL.alloc T_ok rfl rfl (fun b7 m6 hb7 hC6 => ⟨_, rfl, ?_⟩)
      refine RL.storeAgg T_ok (b := b7) (i := 0) (vs := rC x) (cs := [.int .u64 0, .int .u64 0, .int .u64 0]) hC6.blk rfl rfl rfl rfl rfl (by simp) (by simp [rC, Value.oneCell']) rfl ?_
      intro m7 hC7
      have hE7 : Ext m5 [] m7 := (hC6.new (by omega)).trans hC7.ext (fun q hq => .inr (by have h9 : q = b7 := (by simpa using hq); omega))
      have hB7 : Blk m7 b7 167 (rC x) := hC7.blk
      have hO7 := hO5.ext hE7 (by simp)
      have hS7 : b7 ∉ S5 := fun hh => by have := hO5.lt _ hh; omega
      have hN7 : New m4 S5 m7 := ⟨hN5.1.trans hE7 (by simp), hN5.2⟩
      obtain ⟨e7, he7⟩ : ∃ e7 : Env, e7 = [(18, .slice (some ad) l'.length c'), (19, .int .i64 l'.length), (5, .slice A5 r.length c5), (20, .int .i64 i), (7, .pointer (some ⟨b7, 0, none⟩))] := ⟨_, rfl⟩
      refine RL.N1 ?_; (with_reducible repeat (first | refine QN.B1 ?_ | refine QN.N1 ?_))
      refine WP.cut (X := Unit) (fun _ => e7) (fun _ m' => m' = m7 ∧ mg r x = x :: r) ?_ ?_
      · rw [he7]
        (with_reducible repeat (first | refine WP.S1 ?_ | refine WP.B1 ?_ | refine WP.R1 ?_))
        rcases r with _ | ⟨y, r'⟩
        · refine RL.pure T_ok 3 rfl ?_
          refine RL.eqv (v' := .int .i64 (-1)) rfl ?_
          refine RL.A1 T_ok rfl ?_
          refine RL.N1 ?_; (with_reducible repeat (first | refine QN.B1 ?_ | refine QN.N1 ?_))
          (with_reducible repeat (first | refine WP.S1 ?_ | refine WP.B1 ?_ | refine WP.R1 ?_))
          refine WP.calm ?_
          refine WP.drawQ (fun m' => m' = m7) [] (by kernel_rfl) rfl PanicOk.calm (fun hQ => ?_)
          refine RH.pure T_ok hQ [0, 1, 2, 3, 4, 5, 6, 7, 8, 9, 10, 11, 12, 13, 14, 15, 16, 17, 18, 19, 20, 21] (by kernel_rfl) rfl ?_
          refine RH.done (by kernel_rfl) (fun _ => QN.calm ?_)
          (with_reducible repeat (first | refine QN.B1 ?_ | refine QN.N1 ?_))
          refine WP.condF rfl ?_
          refine WP.skip ?_
          exact QN.cutEnd () (Sub.C1 rfl (Sub.C1 rfl (Sub.C1 rfl (Sub.C1 rfl (Sub.C1 rfl Sub.nil))))) ⟨rfl, rfl⟩
        · have hrl : (y :: r').length = r'.length + 1 := rfl
          refine RL.pure T_ok 3 rfl ?_
          refine RL.eqv (v' := .int .i64 r'.length) (congrArg _ (by show IntKind.i64.wrap (((r'.length + 1 : Nat) : Int) - 1) = r'.length; rw [wrap_i64_in _ (by omega) (by omega)]; omega)) ?_
          refine RL.A1 T_ok rfl ?_
          refine RL.N1 ?_; (with_reducible repeat (first | refine QN.B1 ?_ | refine QN.N1 ?_))
          (with_reducible repeat (first | refine WP.S1 ?_ | refine WP.B1 ?_ | refine WP.R1 ?_))
          have hR7 : Rs m7 [] (.slice A5 (y :: r').length c5) (r'.reverse ++ [y]) := by
            have := hO7.sl (M := []) (by simp)
            rw [List.reverse_cons] at this; exact this
          obtain ⟨ad5, rfl, hy⟩ := hR7.cell r'.length (by simp)
          have hyy : (r'.reverse ++ [y])[r'.length]'(by simp) = y := by simp
          rw [hyy] at hy
          refine WP.calm ?_
          refine WP.drawQ (fun m' => m' = m7) [] (by kernel_rfl) rfl PanicOk.calm (fun hQ => ?_)
          refine RH.pure T_ok hQ [0, 1] (by kernel_rfl) rfl ?_
          refine RH.eqv (v' := .bool true) (congrArg _ (decide_eq_true (by omega))) ?_
          refine RH.pure T_ok hQ [2, 3, 4] (by kernel_rfl) rfl ?_
          refine RH.indexAddr T_ok hQ 5 (k := r'.length) rfl (by kernel_rfl) rfl rfl rfl rfl rfl rfl rfl (by omega) rfl ?_
          refine RH.pure T_ok hQ [6] (by kernel_rfl) rfl ?_
          refine RH.load T_ok hQ 7 (fun m' hm' => by rw [hm']; exact hy 0 _ rfl) rfl (by kernel_rfl) rfl rfl rfl rfl ?_
          refine RH.pure T_ok hQ [8] (by kernel_rfl) rfl ?_
          refine RH.load T_ok hQ 9 (fun m' hm' => by rw [hm']; exact hB7.cell 0 rfl) rfl (by kernel_rfl) rfl rfl rfl rfl ?_
          refine RH.pure T_ok hQ [10] (by kernel_rfl) rfl ?_
          by_cases h1 : y.c = x.c
          · refine RH.eqv (v' := .bool true) (congrArg _ (by rw [deq]; exact decide_eq_true h1)) ?_
            refine RH.pure T_ok hQ [11, 12, 13] (by kernel_rfl) rfl ?_
            refine RH.load T_ok hQ 14 (fun m' hm' => by rw [hm']; exact hB7.cell 1 rfl) rfl (by kernel_rfl) rfl rfl rfl rfl ?_
            refine RH.pure T_ok hQ [15, 16] (by kernel_rfl) rfl ?_
            refine RH.indexAddr T_ok hQ 17 (k := r'.length) rfl (by kernel_rfl) rfl rfl rfl rfl rfl rfl rfl (by omega) rfl ?_
            refine RH.pure T_ok hQ [18] (by kernel_rfl) rfl ?_
            refine RH.load T_ok hQ 19 (fun m' hm' => by rw [hm']; exact hy 2 _ rfl) rfl (by kernel_rfl) rfl rfl rfl rfl ?_
            refine RH.pure T_ok hQ [20] (by kernel_rfl) rfl ?_
            by_cases h2 : x.f ≤ y.t
            · refine RH.eqv (v' := .bool true) (congrArg _ (by rw [dle x.f y.t y.t rfl]; exact decide_eq_true h2)) ?_
              refine RH.pure T_ok hQ [21] (by kernel_rfl) rfl ?_
              refine RH.done (by kernel_rfl) (fun _ => QN.calm ?_)
              (with_reducible repeat (first | refine QN.B1 ?_ | refine QN.N1 ?_))
              refine WP.condT rfl ?_
              have hO8 : Ev.Own m7 S5 167 3 (.slice (some ad5) (y :: r').length c5) (y :: r').length ((r'.reverse ++ [y]).flatMap rC) := by
                have := hO7; rw [List.reverse_cons] at this; exact this
              obtain ⟨g, cap, cur, hv8, hB8, rfl, hj8, hset⟩ := hO8.putN (j := r'.length * 3 + 2) (by rw [hrl]; omega)
              injection hv8 with hv8 hv8'
              injection hv8 with hv8
              subst hv8
              (with_reducible repeat (first | refine WP.S1 ?_ | refine WP.B1 ?_ | refine WP.R1 ?_))
              refine WP.calm ?_
              refine WP.drawQ (fun m' => m' = m7) [12] (by kernel_rfl) rfl PanicOk.calm (fun hQ => ?_)
              refine RH.pure T_ok hQ [0, 1, 2, 3] (by kernel_rfl) rfl ?_
              refine RH.indexAddr T_ok hQ 4 (k := r'.length) rfl (by kernel_rfl) rfl rfl rfl rfl rfl rfl rfl (by omega) rfl ?_
              refine RH.pure T_ok hQ [5] (by kernel_rfl) rfl ?_
              refine RH.load T_ok hQ 6 (fun m' hm' => by rw [hm']; exact hy 2 _ rfl) rfl (by kernel_rfl) rfl rfl rfl rfl ?_
              refine RH.pure T_ok hQ [7] (by kernel_rfl) rfl ?_
              refine RH.load T_ok hQ 8 (fun m' hm' => by rw [hm']; exact hB7.cell 2 rfl) rfl (by kernel_rfl) rfl rfl rfl rfl ?_
              refine RH.pure T_ok hQ [9] (by kernel_rfl) rfl ?_
              refine RH.eqv (v' := .int .u64 (max y.t x.t : Nat)) (congrArg _ (by show (if _ then _ else _ : Int) = _; split <;> omega)) ?_
              refine RH.indexAddr T_ok hQ 10 (k := r'.length) rfl (by kernel_rfl) rfl rfl rfl rfl rfl rfl rfl (by omega) rfl ?_
              refine RH.eqv (v' := .pointer (some ⟨g, r'.length * 3, none⟩)) (congrArg (fun q => Value.pointer (some q)) (by rw [add_block]; show (⟨g, 0 + r'.length * 3, none⟩ : Addr) = _; rw [Nat.zero_add])) ?_
              refine RH.pure T_ok hQ [11] (by kernel_rfl) rfl ?_
              refine RH.only 12 rfl (by kernel_rfl) (fun _ => ?_)
              refine RL.store T_ok hB8 (i := r'.length * 3 + 2) (v := .int .u64 (max y.t x.t : Nat)) hj8 rfl rfl rfl rfl rfl rfl ?_
              intro m9 hC9
              have hO9 := hset m9 _ hC9
              rw [show r'.length * 3 + 2 = r'.reverse.length * 3 + 2 by rw [List.length_reverse], rsC_setT, ← List.reverse_cons] at hO9
              have hnx : mg (y :: r') x = { y with t := max y.t x.t } :: r' := by rw [mg_cons, if_pos ⟨h1, h2⟩]
              rw [hnx] at hnext
              have hN9 : New m4 [g] m9 := ⟨hN7.1.trans hC9.ext (fun k hk => .inr (hN7.ge k hk)), hN7.2⟩
              refine RL.N1 (RF.last (by kernel_rfl) (QN.calm ?_))
              (with_reducible repeat (first | refine QN.B1 ?_ | refine QN.N1 ?_))
              refine WP.exit ?_; (with_reducible repeat (first | refine QN.tx ?_ | refine QN.bx ?_ | refine QN.block_far rfl ?_ | refine QN.B1 ?_ | refine QN.N1 ?_)); (with_reducible repeat (first | refine WP.S1 ?_ | refine WP.B1 ?_ | refine WP.R1 ?_))
              refine RL.pure T_ok 1 rfl ?_
              refine RL.eqv (v' := .int .i64 ((i + 1 : Nat) : Int)) (congrArg _ (by rw [wrap_i64_in _ (by omega) (by omega)]; rfl)) ?_
              refine RL.A1 T_ok rfl ?_
              refine RL.N1 (QN.round (i + 1, .slice (some ⟨g, 0, none⟩) (y :: r').length c5, [g]) (Sub.C1 rfl (Sub.C1 rfl (Sub.C1 rfl (Sub.C1 rfl Sub.nil)))) ⟨by show i + 1 ≤ _; omega, ?_, hN9⟩ (by show _ - (i + 1) < _ - i; omega))
              show Ev.Own m9 [g] 167 3 _ ((l'.take (i + 1)).foldl mg []).length (((l'.take (i + 1)).foldl mg []).reverse.flatMap rC)
              rw [hnext]
              exact hO9
            · refine RH.eqv (v' := .bool false) (congrArg _ (by rw [dle x.f y.t y.t rfl]; exact decide_eq_false h2)) ?_
              refine RH.pure T_ok hQ [21] (by kernel_rfl) rfl ?_
              refine RH.done (by kernel_rfl) (fun _ => QN.calm ?_)
              (with_reducible repeat (first | refine QN.B1 ?_ | refine QN.N1 ?_))
              refine WP.condF rfl ?_
              refine WP.skip ?_
              exact QN.cutEnd () (Sub.C1 rfl (Sub.C1 rfl (Sub.C1 rfl (Sub.C1 rfl (Sub.C1 rfl Sub.nil))))) ⟨rfl, by rw [mg_cons, if_neg (fun hh => h2 hh.2)]⟩
          · refine RH.eqv (v' := .bool false) (congrArg _ (by rw [deq]; exact decide_eq_false h1)) ?_
            refine RH.pure T_ok hQ [11, 12, 13, 14, 15, 16, 17, 18, 19, 20, 21] (by kernel_rfl) rfl ?_
            refine RH.done (by kernel_rfl) (fun _ => QN.calm ?_)
            (with_reducible repeat (first | refine QN.B1 ?_ | refine QN.N1 ?_))
            refine WP.condF rfl ?_
            refine WP.skip ?_
            exact QN.cutEnd () (Sub.C1 rfl (Sub.C1 rfl (Sub.C1 rfl (Sub.C1 rfl (Sub.C1 rfl Sub.nil))))) ⟨rfl, by rw [mg_cons, if_neg (fun hh => h1 hh.1)]⟩
      · -- put behind
        rintro _ m' ⟨rfl, hmg⟩
        rw [he7]
        (with_reducible repeat (first | refine WP.S1 ?_ | refine WP.B1 ?_ | refine WP.R1 ?_))
        rw [hmg] at hnext
        refine RL.sub (e' := [(18, .slice (some ad) l'.length c'), (19, .int .i64 l'.length), (5, .slice A5 r.length c5), (20, .int .i64 i), (7, .pointer (some ⟨b7, 0, none⟩))]) (Sub.C1 rfl (Sub.C1 rfl (Sub.C1 rfl (Sub.C1 rfl (Sub.C1 rfl Sub.nil))))) ?_
        refine RL.A1 T_ok rfl ?_
        refine RL.loadAgg T_ok (rC x) rfl rfl rfl (fun j u hu => by rw [add_block]; exact hB7.cell _ (by simpa using hu)) rfl ?_
        refine RL.append1 T_ok [.tmp 62] hO7 (us := [rV x]) (rC x) rfl rfl rfl rfl rfl rfl rfl rfl rfl (by simp [rV, rC, Value.cells]) (by simp [rV, Value.cells]) (rC_one x) (by unfold maxLen; omega) (by show (_ + 1) * 24 ≤ _; omega) ?_
        intro v8 m8 S8 hO8 hE8 hF8
        refine ⟨_, rfl, ?_⟩
        refine RL.A1 T_ok rfl ?_
        refine RL.N1 ?_; (with_reducible repeat (first | refine QN.B1 ?_ | refine QN.N1 ?_ | refine WP.S1 ?_ | refine WP.B1 ?_ | refine WP.R1 ?_))
        refine RL.pure T_ok 1 rfl ?_
        refine RL.eqv (v' := .int .i64 ((i + 1 : Nat) : Int)) (congrArg _ (by rw [wrap_i64_in _ (by omega) (by omega)]; rfl)) ?_
        refine RL.A1 T_ok rfl ?_
        have hN8 : New m4 S8 m8 := ⟨hN7.1.trans hE8 (fun k hk => .inr (hN7.ge k hk)), hN7.2.trans hF8 hN7.1.size⟩
        refine RL.N1 (QN.round (i + 1, v8, S8) (Sub.C1 rfl (Sub.C1 rfl (Sub.C1 rfl (Sub.C1 rfl Sub.nil)))) ⟨by show i + 1 ≤ _; omega, ?_, hN8⟩ (by show _ - (i + 1) < _ - i; omega))
        show Ev.Own m8 S8 167 3 _ ((l'.take (i + 1)).foldl mg []).length (((l'.take (i + 1)).foldl mg []).reverse.flatMap rC)
        rw [hnext, List.reverse_cons, ← rsC_app]
        exact hO8
    · have hc : i = l'.length := by have := of_decide_eq_false hc; omega
      subst hc
      rw [List.take_length] at hO5
      have hcl := merged_clean l l' hperm hsort
      rw [hcl] at hO5
      have hln : (l'.foldl mg []).length = (clean l).length := by rw [← hcl, List.length_reverse]
      rw [hln] at hO5
      have hk5 : m5.heap[D]? = some (.deferred (some [])) := (hN5.1.far D hDlt4 (by simp)).trans hk4
      refine WP.exit ?_; (with_reducible repeat (first | refine QN.tx ?_ | refine QN.bx ?_ | refine QN.block_far rfl ?_ | refine QN.B1 ?_ | refine QN.N1 ?_)); (with_reducible repeat (first | refine WP.S1 ?_ | refine WP.B1 ?_ | refine WP.R1 ?_))
      refine RL.A1 T_ok rfl ?_
      refine RL.N1 ?_; (with_reducible repeat (first | refine QN.B1 ?_ | refine QN.N1 ?_ | refine WP.S1 ?_ | refine WP.B1 ?_ | refine WP.R1 ?_))
      refine WP.ret ?_; (with_reducible repeat (first | refine QN.tr ?_ | refine QN.br ?_))
      refine QN.noGotoRet ?_
      refine QN.leaveM (.inl rfl) hk5 (fun m' hK hfar => ⟨Res.tmp rfl rfl, ⟨_, rfl, S5, hO5.kc hK, (hE4m.trans hN5.1 (by simp)).of_kc hK hDm, hN5.2.trans' hE4m ⟩⟩)
  · rintro D c pre m' _ _ hx
    exact hx.elim
end Go.Proofs.YtgpgladbdoimdaaGreatDoor
end
section
namespace Go.Proofs.YtgpgladbdoimdaaGreatDoor
open Go.RowKit Go.Ev Go.Ids
end Go.Proofs.YtgpgladbdoimdaaGreatDoor
end
section
namespace Go.Proofs.YtgpgladbdoimdaaGreatDoor
open Go.RowKit Go.Ev Go.Ids
end Go.Proofs.YtgpgladbdoimdaaGreatDoor
end
section
namespace Go.Proofs.YtgpgladbdoimdaaGreatDoor
open Go.RowKit Go.Ev Go.Ids
theorem dle' (a b : Nat) : decide ((a : Int) ≤ (b : Int)) = decide (a ≤ b) := by rw [decide_eq_decide]; omega
theorem dge' (a b : Nat) : decide ((a : Int) ≥ (b : Int)) = decide (b ≤ a) := by rw [decide_eq_decide]; omega
def Made (m : World) (r : Value) (l : List Rng) (m' : World) : Prop := ∃ S', Ev.Own m' S' 167 3 r l.length (l.flatMap rC) ∧ New m S' m'
theorem minus_c (m : World) (v u : Value) (a b : List Rng) (h : Rs m [] v a) (h' : Rs m [] u b) (hla : a.length < 500000000) (hlb : b.length < 500000000) (hl : a.length * (b.length + 1) < 100000000) :
    FnR Tryz.prog 123 [v, u] m fun r m' => Made m r (minus a b) m' := by
  refine FnE.enter ⟨_, Tryz.func123, by kernel_rfl, by kernel_rfl⟩ Tryz.func123 rfl rfl ?_
  (with_reducible repeat (first | refine WP.S1 ?_ | refine WP.B1 ?_ | refine WP.R1 ?_))
  refine RL.A1 T_ok rfl ?_
  refine RL.N1 ?_; (with_reducible repeat (first | refine QN.B1 ?_ | refine QN.N1 ?_ | refine WP.S1 ?_ | refine WP.B1 ?_ | refine WP.R1 ?_))
  refine RL.A1 T_ok rfl ?_
  refine RL.N1 ?_; (with_reducible repeat (first | refine QN.B1 ?_ | refine QN.N1 ?_ | refine WP.S1 ?_ | refine WP.B1 ?_ | refine WP.R1 ?_))
  refine RL.A1 T_ok rfl ?_
  refine RL.call (fi := []) (ca := []) rfl rfl rfl rfl (clean_c m u b h' hlb) ?_
  rintro v1 m1 ⟨S1, hO1, hN1⟩
  refine ⟨_, rfl, ?_⟩
  refine RL.A1 T_ok rfl ?_
  refine RL.N1 ?_; (with_reducible repeat (first | refine QN.B1 ?_ | refine QN.N1 ?_ | refine WP.S1 ?_ | refine WP.B1 ?_ | refine WP.R1 ?_))
  refine RL.A1 T_ok rfl ?_
  refine RL.call (fi := []) (ca := []) rfl rfl rfl rfl (clean_c m1 v a (h.ext0 hN1.1) hla) ?_
  rintro v2 m2 ⟨S2, hO2, hN2⟩
  refine ⟨_, rfl, ?_⟩
  have hO12 := hO1.ext hN2.1 (by simp)
  have hEm : Ext m [] m2 := hN1.1.trans hN2.1 (by simp)
  have hAl := clean_len a
  have hBl := clean_len b
  have hml : (clean a).length * ((clean b).length + 1) ≤ a.length * (b.length + 1) := Nat.mul_le_mul hAl (Nat.succ_le_succ hBl)
  have hdef : minus a b = clean ((clean a).foldl (fun out x => outM (clean b) x out) []) := rfl
  rw [hdef]
  generalize clean a = A at hO2 hAl hml ⊢
  generalize clean b = B at hO12 hBl hml ⊢
  clear hdef hO1
  obtain ⟨A2, c2, rfl, _⟩ := hO2.shape
  obtain ⟨A1, c1, rfl, _⟩ := hO12.shape
  have hRA : Rs m2 [] (.slice A2 A.length c2) A := hO2.sl (by simp)
  have hRB : Rs m2 [] (.slice A1 B.length c1) B := hO12.sl (by simp)
  clear hO2 hO12 hN1 hN2
  refine RL.A1 T_ok rfl ?_
  refine RL.N1 ?_; (with_reducible repeat (first | refine QN.B1 ?_ | refine QN.N1 ?_ | refine WP.S1 ?_ | refine WP.B1 ?_ | refine WP.R1 ?_))
  refine (WP.loop (X := Nat × Value × List Nat) (fun x => [(13, .slice A2 A.length c2), (14, .int .i64 A.length), (1, .slice A1 B.length c1), (5, x.2.1), (15, .int .i64 x.1)])
    (fun x m' => x.1 ≤ A.length ∧ Ev.Own m' x.2.2 167 3 x.2.1 ((A.take x.1).foldl (fun out x => outM B x out) []).length (((A.take x.1).foldl (fun out x => outM B x out) []).flatMap rC) ∧ New m2 x.2.2 m') (fun x => A.length - x.1) (0, .slice none 0 0, [])
    (Sub.C1 rfl (Sub.C1 rfl (Sub.C1 rfl (Sub.C1 rfl (Sub.C1 rfl Sub.nil))))) ⟨by simp, Own.empty _ _ _ _, Ext.refl _ _, FpNew.nil _ _⟩ ?_)
  rintro ⟨i, w, S⟩ m3 ⟨hi, hO3, hN3⟩
  simp only at hi hO3 hN3
  (with_reducible repeat (first | refine WP.S1 ?_ | refine WP.B1 ?_ | refine WP.R1 ?_))
  refine RL.A1 T_ok rfl ?_
  refine RL.N1 ?_; (with_reducible repeat (first | refine QN.B1 ?_ | refine QN.N1 ?_ | refine WP.S1 ?_ | refine WP.B1 ?_ | refine WP.R1 ?_))
  refine WP.cond rfl (fun hc => ?_) (fun hc => ?_)
  · replace hc : i < A.length := by have := of_decide_eq_true hc; simp only at this; omega
    obtain ⟨ad, rfl, hx⟩ := (hRA.ext0 hN3.1).cell i hc
    have hnext : (A.take (i + 1)).foldl (fun out x => outM B x out) [] = outM B A[i] ((A.take i).foldl (fun out x => outM B x out) []) := by rw [List.take_succ_eq_append_getElem hc, List.foldl_append]; rfl
    have hlen1 : ((A.take i).foldl (fun out x => outM B x out) []).length ≤ i * (B.length + 1) := by
      have h9 := minusO_len (A.take i) B []
      rw [List.length_take, Nat.min_eq_left hi] at h9
      simpa using h9
    have hlen2 : i * (B.length + 1) + (B.length + 1) ≤ A.length * (B.length + 1) := by
      have h9 : (i + 1) * (B.length + 1) ≤ A.length * (B.length + 1) := Nat.mul_le_mul_right _ hc
      rw [Nat.succ_mul] at h9; exact h9
    generalize (A.take i).foldl (fun out x => outM B x out) [] = out at hO3 hnext hlen1
    obtain ⟨x, hxe⟩ : ∃ x, A[i] = x := ⟨_, rfl⟩
    rw [hxe] at hx hnext
    refine WP.skip ?_; (with_reducible repeat (first | refine QN.B1 ?_ | refine QN.N1 ?_ | refine WP.S1 ?_ | refine WP.B1 ?_ | refine WP.R1 ?_))
    refine RL.indexAddr (k := i) T_ok rfl rfl rfl rfl rfl rfl rfl hc rfl ?_
    refine RL.loadAgg T_ok (rC x) rfl rfl rfl hx rfl ?_
    refine RL.alloc T_ok rfl rfl (fun b7 m4 hb7 hC4 => ⟨_, rfl, ?_⟩)
    refine RL.storeAgg T_ok (b := b7) (i := 0) (vs := rC x) (cs := [.int .u64 0, .int .u64 0, .int .u64 0]) hC4.blk rfl rfl rfl rfl rfl (by simp) (by simp [rC, Value.oneCell']) rfl ?_
    intro m5 hC5
    have hE5 : Ext m3 [] m5 := (hC4.new (by omega)).trans hC5.ext (fun q hq => .inr (by have h9 : q = b7 := (by simpa using hq); omega))
    have hB5 : Blk m5 b7 167 (rC x) := hC5.blk
    have hO5 := hO3.ext hE5 (by simp)
    have h7S : b7 ∉ S := fun hh => by have := hO3.lt _ hh; omega
    have h7m : m2.heap.size ≤ b7 := by have := hN3.1.size; omega
    have hN5 : New m2 S m5 := ⟨hN3.1.trans hE5 (by simp), hN3.2⟩
    refine RL.N1 ?_; (with_reducible repeat (first | refine QN.B1 ?_ | refine QN.N1 ?_ | refine WP.S1 ?_ | refine WP.B1 ?_ | refine WP.R1 ?_))
    refine RL.A1 T_ok rfl ?_
    refine RL.N1 ?_; (with_reducible repeat (first | refine QN.B1 ?_ | refine QN.N1 ?_ | refine WP.S1 ?_ | refine WP.B1 ?_ | refine WP.R1 ?_))
    refine (WP.loop (X := Nat × Value × List Nat) (fun x => [(13, .slice (some ad) A.length c2), (14, .int .i64 A.length), (1, .slice A1 B.length c1), (15, .int .i64 i), (7, .pointer (some ⟨b7, 0, none⟩)), (19, .slice A1 B.length c1), (20, .int .i64 B.length), (5, x.2.1), (21, .int .i64 x.1)])
      (fun q m' => q.1 ≤ B.length ∧ Blk m' b7 167 (rC ((B.take q.1).foldl cutM (x, out)).1) ∧ Ev.Own m' q.2.2 167 3 q.2.1 ((B.take q.1).foldl cutM (x, out)).2.length (((B.take q.1).foldl cutM (x, out)).2.flatMap rC) ∧ b7 ∉ q.2.2 ∧ New m2 q.2.2 m') (fun x => B.length - x.1) (0, w, S)
      (Sub.C1 rfl (Sub.C1 rfl (Sub.C1 rfl (Sub.C1 rfl (Sub.C1 rfl (Sub.C1 rfl (Sub.C1 rfl (Sub.C1 rfl (Sub.C1 rfl Sub.nil))))))))) ⟨by simp, hB5, hO5, h7S, hN5⟩ ?_)
    rintro ⟨j, w6, S6⟩ m6 ⟨hj, hB6, hO6, h76, hN6⟩
    simp only at hj hB6 hO6 h76 hN6
    have hlen6 : ((B.take j).foldl cutM (x, out)).2.length ≤ out.length + j := by
      have h9 := cutM_len (B.take j) (x, out)
      rw [List.length_take, Nat.min_eq_left hj] at h9
      exact h9
    (with_reducible repeat (first | refine WP.S1 ?_ | refine WP.B1 ?_ | refine WP.R1 ?_))
    refine RL.A1 T_ok rfl ?_
    refine RL.N1 ?_; (with_reducible repeat (first | refine QN.B1 ?_ | refine QN.N1 ?_ | refine WP.S1 ?_ | refine WP.B1 ?_ | refine WP.R1 ?_))
    refine WP.cond rfl (fun hcj => ?_) (fun hcj => ?_)
    · replace hcj : j < B.length := by have := of_decide_eq_true hcj; simp only at this; omega
      obtain ⟨ae, rfl, hy⟩ := (hRB.ext0 hN6.1).cell j hcj
      obtain ⟨y, hye⟩ : ∃ y, B[j] = y := ⟨_, rfl⟩
      have hnx : (B.take (j + 1)).foldl cutM (x, out) = cutM ((B.take j).foldl cutM (x, out)) y := by rw [List.take_succ_eq_append_getElem hcj, List.foldl_append, hye]; rfl
      rw [hye] at hy
      generalize (B.take j).foldl cutM (x, out) = s at hB6 hO6 hlen6 hnx
      obtain ⟨x', o'⟩ := s
      simp only at hB6 hO6 hlen6
      have hcut : cutM (x', o') y = if x'.c ≠ y.c ∨ y.t ≤ x'.f ∨ x'.t ≤ y.f then (x', o') else ({ x' with f := y.t }, o' ++ [⟨x'.c, x'.f, y.f⟩]) := rfl
      refine WP.skip ?_; (with_reducible repeat (first | refine QN.B1 ?_ | refine QN.N1 ?_ | refine WP.S1 ?_ | refine WP.B1 ?_ | refine WP.R1 ?_))
      refine RL.indexAddr (k := j) T_ok rfl rfl rfl rfl rfl rfl rfl hcj rfl ?_
      refine RL.loadAgg T_ok (rC y) rfl rfl rfl hy rfl ?_
      refine RL.alloc T_ok rfl rfl (fun b9 m7 hb9 hC7 => ⟨_, rfl, ?_⟩)
      refine RL.storeAgg T_ok (b := b9) (i := 0) (vs := rC y) (cs := [.int .u64 0, .int .u64 0, .int .u64 0]) hC7.blk rfl rfl rfl rfl rfl (by simp) (by simp [rC, Value.oneCell']) rfl ?_
      intro m8 hC8
      have hE8 : Ext m6 [] m8 := (hC7.new (by omega)).trans hC8.ext (fun q hq => .inr (by have h9 : q = b9 := (by simpa using hq); omega))
      have hB9 : Blk m8 b9 167 (rC y) := hC8.blk
      have hB7 := hB6.ext hE8 (by simp)
      have hO8 := hO6.ext hE8 (by simp)
      have hN8 : New m2 S6 m8 := ⟨hN6.1.trans hE8 (by simp), hN6.2⟩
      have l7 := hB6.lt
      have hE8m : Ext m2 [] m8 := hN8.1
      refine RL.N1 ?_; (with_reducible repeat (first | refine QN.B1 ?_ | refine QN.N1 ?_))
      refine WP.S1 ?_
      refine WP.cut (X := Bool) (fun q => [(13, .slice (some ad) A.length c2), (14, .int .i64 A.length), (1, .slice (some ae) B.length c1), (15, .int .i64 i), (7, .pointer (some ⟨b7, 0, none⟩)), (19, .slice (some ae) B.length c1), (20, .int .i64 B.length), (5, w6), (21, .int .i64 j), (9, .pointer (some ⟨b9, 0, none⟩)), (43, .bool q)]) (fun q m' => m' = m8 ∧ q = decide (x'.c ≠ y.c ∨ y.t ≤ x'.f ∨ x'.t ≤ y.f)) ?_ ?_
      · refine WP.R1 ?_
        repeat (first | refine RL.pure T_ok 1 rfl ?_ | refine RL.load T_ok rfl rfl rfl (hB7.cell _ rfl) rfl ?_ | refine RL.load T_ok rfl rfl rfl (hB9.cell _ rfl) rfl ?_)
        by_cases h1 : x'.c = y.c
        · refine RL.eqv (v' := .bool false) (congrArg _ (by rw [bne_nat']; exact decide_eq_false (fun hh => hh h1))) ?_
          repeat (first | refine RL.pure T_ok 1 rfl ?_ | refine RL.load T_ok rfl rfl rfl (hB7.cell _ rfl) rfl ?_ | refine RL.load T_ok rfl rfl rfl (hB9.cell _ rfl) rfl ?_)
          by_cases h2 : y.t ≤ x'.f
          · refine RL.eqv (v' := .bool true) (congrArg _ (by rw [dle']; exact decide_eq_true h2)) ?_
            repeat (first | refine RL.pure T_ok 1 rfl ?_ | refine RL.load T_ok rfl rfl rfl (hB7.cell _ rfl) rfl ?_ | refine RL.load T_ok rfl rfl rfl (hB9.cell _ rfl) rfl ?_)
            exact RL.N1 (QN.cutEnd true (Sub.C1 rfl (Sub.C1 rfl (Sub.C1 rfl (Sub.C1 rfl (Sub.C1 rfl (Sub.C1 rfl (Sub.C1 rfl (Sub.C1 rfl (Sub.C1 rfl (Sub.C1 rfl (Sub.C1 rfl (Sub.nil)))))))))))) ⟨rfl, (decide_eq_true (.inr (.inl h2))).symm⟩)
          · refine RL.eqv (v' := .bool false) (congrArg _ (by rw [dle']; exact decide_eq_false h2)) ?_
            repeat (first | refine RL.pure T_ok 1 rfl ?_ | refine RL.load T_ok rfl rfl rfl (hB7.cell _ rfl) rfl ?_ | refine RL.load T_ok rfl rfl rfl (hB9.cell _ rfl) rfl ?_)
            refine RL.N1 (QN.cutEnd (decide (x'.t ≤ y.f)) (Sub.C1 rfl (Sub.C1 rfl (Sub.C1 rfl (Sub.C1 rfl (Sub.C1 rfl (Sub.C1 rfl (Sub.C1 rfl (Sub.C1 rfl (Sub.C1 rfl (Sub.C1 rfl (Sub.C1 ?_ Sub.nil))))))))))) ⟨rfl, decide_eq_decide.2 ⟨fun hh => .inr (.inr hh), fun hh => ?_⟩⟩)
            · show some (Value.bool (decide ((y.f : Int) ≥ (x'.t : Int)))) = _
              rw [dge']
            · rcases hh with hh | hh | hh
              · exact absurd h1 hh
              · exact absurd hh h2
              · exact hh
        · refine RL.eqv (v' := .bool true) (congrArg _ (by rw [bne_nat']; exact decide_eq_true h1)) ?_
          repeat (first | refine RL.pure T_ok 1 rfl ?_ | refine RL.load T_ok rfl rfl rfl (hB7.cell _ rfl) rfl ?_ | refine RL.load T_ok rfl rfl rfl (hB9.cell _ rfl) rfl ?_)
          exact RL.N1 (QN.cutEnd true (Sub.C1 rfl (Sub.C1 rfl (Sub.C1 rfl (Sub.C1 rfl (Sub.C1 rfl (Sub.C1 rfl (Sub.C1 rfl (Sub.C1 rfl (Sub.C1 rfl (Sub.C1 rfl (Sub.C1 rfl (Sub.nil)))))))))))) ⟨rfl, (decide_eq_true (.inl h1)).symm⟩)
      rintro q mc ⟨rfl, hq⟩
      refine WP.cond rfl (fun hb => ?_) (fun hb => ?_)
      · rw [hb] at hq
        rw [hcut, if_pos (of_decide_eq_true hq.symm)] at hnx
        refine WP.exit ?_; (with_reducible repeat (first | refine QN.tx ?_ | refine QN.bx ?_ | refine QN.block_far rfl ?_ | refine QN.B1 ?_ | refine QN.N1 ?_)); (with_reducible repeat (first | refine WP.S1 ?_ | refine WP.B1 ?_ | refine WP.R1 ?_))
        refine RL.pure T_ok 1 rfl ?_
        refine RL.eqv (v' := .int .i64 ((j + 1 : Nat) : Int)) (congrArg _ (by rw [wrap_i64_in _ (by omega) (by omega)]; rfl)) ?_
        refine RL.A1 T_ok rfl ?_
        refine RL.N1 (QN.round (j + 1, w6, S6) (Sub.C1 rfl (Sub.C1 rfl (Sub.C1 rfl (Sub.C1 rfl (Sub.C1 rfl (Sub.C1 rfl (Sub.C1 rfl (Sub.C1 rfl (Sub.C1 rfl (Sub.nil)))))))))) ⟨by show j + 1 ≤ _; omega, ?_, ?_, h76, hN8⟩ (by show _ - (j + 1) < _ - j; omega))
        · show Blk _ b7 167 (rC ((B.take (j + 1)).foldl cutM (x, out)).1)
          rw [hnx]; exact hB7
        · show Ev.Own _ S6 167 3 w6 ((B.take (j + 1)).foldl cutM (x, out)).2.length (((B.take (j + 1)).foldl cutM (x, out)).2.flatMap rC)
          rw [hnx]; exact hO8
      · rw [hb] at hq
        rw [hcut, if_neg (of_decide_eq_false hq.symm)] at hnx
        refine WP.skip ?_; (with_reducible repeat (first | refine QN.B1 ?_ | refine QN.N1 ?_ | refine WP.S1 ?_ | refine WP.B1 ?_ | refine WP.R1 ?_))
        repeat (first | refine RL.pure T_ok 1 rfl ?_ | refine RL.load T_ok rfl rfl rfl (hB7.cell _ rfl) rfl ?_ | refine RL.load T_ok rfl rfl rfl (hB9.cell _ rfl) rfl ?_)
        refine RL.append1 T_ok [.tmp 51] hO8 (us := [rV ⟨x'.c, x'.f, y.f⟩]) (rC ⟨x'.c, x'.f, y.f⟩) rfl rfl rfl rfl rfl rfl rfl rfl rfl (by simp [rV, rC, Value.cells]) (by simp [rV, Value.cells]) (rC_one _) (by unfold maxLen; omega) (by show (_ + 1) * 24 ≤ _; omega) ?_
        intro v10 m10 S10 hO10 hE10 hF10
        refine ⟨_, rfl, ?_⟩
        have l9 := hB9.lt
        have l7' := hB7.lt
        have h9S : b9 ∉ S6 := fun hh => by have := hO6.lt _ hh; omega
        have hB7p := hB7.ext hE10 h76
        have hB9p := hB9.ext hE10 h9S
        have h710 : b7 ∉ S10 := hF10.far h76 l7'
        have hN10 : New m2 S10 m10 := ⟨hN8.1.trans hE10 (fun k hk => .inr (hN8.ge k hk)), hN8.2.trans hF10 hN8.1.size⟩
        refine RL.A1 T_ok rfl ?_
        refine RL.N1 ?_; (with_reducible repeat (first | refine QN.B1 ?_ | refine QN.N1 ?_ | refine WP.S1 ?_ | refine WP.B1 ?_ | refine WP.R1 ?_))
        repeat (first | refine RL.pure T_ok 1 rfl ?_ | refine RL.load T_ok rfl rfl rfl (hB7p.cell _ rfl) rfl ?_ | refine RL.load T_ok rfl rfl rfl (hB9p.cell _ rfl) rfl ?_)
        refine RL.store T_ok hB7p (i := 1) (v := .int .u64 y.t) (by simp [rC]) rfl rfl rfl rfl rfl rfl ?_
        intro m11 hC11
        have hE11 : Ext m2 [] m11 := hN10.1.trans hC11.ext (fun k hk => .inr (by have h9 : k = b7 := (by simpa using hk); omega))
        have hO11 := hO10.ext hC11.ext (fun k hk hh => h710 (by have h9 : k = b7 := (by simpa using hh); exact h9 ▸ hk))
        have hB11 : Blk m11 b7 167 (rC { x' with f := y.t }) := hC11.blk
        refine RL.N1 ?_; (with_reducible repeat (first | refine QN.B1 ?_ | refine QN.N1 ?_ | refine WP.S1 ?_ | refine WP.B1 ?_ | refine WP.R1 ?_))
        refine RL.pure T_ok 1 rfl ?_
        refine RL.eqv (v' := .int .i64 ((j + 1 : Nat) : Int)) (congrArg _ (by rw [wrap_i64_in _ (by omega) (by omega)]; rfl)) ?_
        refine RL.A1 T_ok rfl ?_
        refine RL.N1 (QN.round (j + 1, v10, S10) (Sub.C1 rfl (Sub.C1 rfl (Sub.C1 rfl (Sub.C1 rfl (Sub.C1 rfl (Sub.C1 rfl (Sub.C1 rfl (Sub.C1 rfl (Sub.C1 rfl (Sub.nil)))))))))) ⟨by show j + 1 ≤ _; omega, ?_, ?_, h710, ⟨hE11, hN10.2⟩⟩ (by show _ - (j + 1) < _ - j; omega))
        · show Blk _ b7 167 (rC ((B.take (j + 1)).foldl cutM (x, out)).1)
          rw [hnx]; exact hB11
        · show Ev.Own _ S10 167 3 v10 ((B.take (j + 1)).foldl cutM (x, out)).2.length (((B.take (j + 1)).foldl cutM (x, out)).2.flatMap rC)
          rw [hnx, List.length_append, ← rsC_app]
          simpa using hO11
    · replace hcj : j = B.length := by have := of_decide_eq_false hcj; simp only at this; omega
      subst hcj
      rw [List.take_length] at hB6 hO6 hlen6
      have hoM : outM B x out = (B.foldl cutM (x, out)).2 ++ [(B.foldl cutM (x, out)).1] := rfl
      generalize B.foldl cutM (x, out) = s at hB6 hO6 hlen6 hoM
      obtain ⟨x', o'⟩ := s
      simp only at hB6 hO6 hlen6 hoM
      refine WP.exit ?_; (with_reducible repeat (first | refine QN.tx ?_ | refine QN.bx ?_ | refine QN.block_far rfl ?_ | refine QN.B1 ?_ | refine QN.N1 ?_)); (with_reducible repeat (first | refine WP.S1 ?_ | refine WP.B1 ?_ | refine WP.R1 ?_))
      refine RL.A1 T_ok rfl ?_
      refine RL.loadAgg T_ok (rC x') rfl rfl rfl (fun j u hu => by rw [add_block]; exact hB6.cell _ (by simpa using hu)) rfl ?_
      refine RL.append1 T_ok [.tmp 59] hO6 (us := [rV x']) (rC x') rfl rfl rfl rfl rfl rfl rfl rfl rfl (by simp [rV, rC, Value.cells]) (by simp [rV, Value.cells]) (rC_one x') (by unfold maxLen; omega) (by show (_ + 1) * 24 ≤ _; omega) ?_
      intro v8 m8 S8 hO8 hE8 hF8
      refine ⟨_, rfl, ?_⟩
      refine RL.A1 T_ok rfl ?_
      refine RL.N1 ?_; (with_reducible repeat (first | refine QN.B1 ?_ | refine QN.N1 ?_ | refine WP.S1 ?_ | refine WP.B1 ?_ | refine WP.R1 ?_))
      refine RL.pure T_ok 1 rfl ?_
      refine RL.eqv (v' := .int .i64 ((i + 1 : Nat) : Int)) (congrArg _ (by rw [wrap_i64_in _ (by omega) (by omega)]; rfl)) ?_
      refine RL.A1 T_ok rfl ?_
      have hN8 : New m2 S8 m8 := ⟨hN6.1.trans hE8 (fun k hk => .inr (hN6.ge k hk)), hN6.2.trans hF8 hN6.1.size⟩
      refine RL.N1 (QN.round (i + 1, v8, S8) (Sub.C1 rfl (Sub.C1 rfl (Sub.C1 rfl (Sub.C1 rfl (Sub.C1 rfl (Sub.nil)))))) ⟨by show i + 1 ≤ _; omega, ?_, hN8⟩ (by show _ - (i + 1) < _ - i; omega))
      show Ev.Own m8 S8 167 3 _ ((A.take (i + 1)).foldl (fun out x => outM B x out) []).length (((A.take (i + 1)).foldl (fun out x => outM B x out) []).flatMap rC)
      rw [hnext, hoM, List.length_append, ← rsC_app]
      simpa using hO8
  · replace hc : i = A.length := by have := of_decide_eq_false hc; simp only at this; omega
    subst hc
    rw [List.take_length] at hO3
    have hlen1 : (A.foldl (fun out x => outM B x out) []).length ≤ A.length * (B.length + 1) := by
      have h9 := minusO_len A B []
      simpa using h9
    have hRo : Rs m3 [] w (A.foldl (fun out x => outM B x out) []) := hO3.sl (by simp)
    refine WP.exit ?_; (with_reducible repeat (first | refine QN.tx ?_ | refine QN.bx ?_ | refine QN.block_far rfl ?_ | refine QN.B1 ?_ | refine QN.N1 ?_)); (with_reducible repeat (first | refine WP.S1 ?_ | refine WP.B1 ?_ | refine WP.R1 ?_))
    refine RL.A1 T_ok rfl ?_
    refine RL.call (fi := []) (ca := []) rfl rfl rfl rfl (clean_c m3 w _ hRo (by omega)) ?_
    rintro v9 m9 ⟨S9, hO9, hN9⟩
    refine ⟨_, rfl, ?_⟩
    refine RL.A1 T_ok rfl ?_
    refine RL.N1 ?_; (with_reducible repeat (first | refine QN.B1 ?_ | refine QN.N1 ?_ | refine WP.S1 ?_ | refine WP.B1 ?_ | refine WP.R1 ?_))
    refine WP.ret ?_; (with_reducible repeat (first | refine QN.tr ?_ | refine QN.br ?_))
    have hE39 : Ext m [] m3 := hEm.trans hN3.1 (by simp)
    exact QN.ret1 rfl rfl ⟨_, rfl, S9, hO9, hE39.trans hN9.1 (by simp), hN9.2.trans' hE39⟩
end Go.Proofs.YtgpgladbdoimdaaGreatDoor
end
section
namespace Go.Ev
open Go.RowKit
end Go.Ev
namespace Go.Proofs.YtgpgladbdoimdaaGreatDoor
open Go.RowKit Go.Ev Go.Ids
end Go.Proofs.YtgpgladbdoimdaaGreatDoor
end
section
namespace Go.Proofs.YtgpgladbdoimdaaGreatDoor
open Go.RowKit Go.Ev Go.Ids
theorem join_c (m : World) (v u : Value) (a b : List Rng) (h : Rs m [] v a) (h' : Rs m [] u b) (hl : a.length + b.length < 100000000) :
    FnR Tryz.prog 125 [v, u] m fun r m' => Made m r (join a b) m' := by
  obtain ⟨A, c, rfl, _, _⟩ := h.shape
  obtain ⟨B, c', rfl, _, _⟩ := h'.shape
  refine FnE.enter ⟨_, Tryz.func125, by kernel_rfl, by kernel_rfl⟩ Tryz.func125 rfl rfl ?_
  (with_reducible repeat (first | refine WP.S1 ?_ | refine WP.B1 ?_ | refine WP.R1 ?_))
  refine RL.A1 T_ok rfl ?_
  refine RL.N1 ?_; (with_reducible repeat (first | refine QN.B1 ?_ | refine QN.N1 ?_ | refine WP.S1 ?_ | refine WP.B1 ?_ | refine WP.R1 ?_))
  refine RL.A1 T_ok rfl ?_
  refine RL.buildSlice T_ok [.tmp 5, .tmp 6] (us := [.slice A a.length c, .slice B b.length c']) [.slice A a.length c, .slice B b.length c'] rfl rfl rfl rfl rfl rfl (by simp [Value.cells]) rfl rfl (fun b1 m1 hb1 hC1 => ⟨_, rfl, ?_⟩)
  have hE1 : Ext m [] m1 := hC1.new (by omega)
  have hS1 : Sl m1 [] 1 (.slice (some ⟨b1, 0, none⟩) 2 2) [.slice A a.length c, .slice B b.length c'] := Sl.of_blk (M := []) (n := 2) (c := 2) (sz := 1) hC1.blk (by simp) (by simp) (by omega) (by unfold maxLen; omega)
  refine RL.call (fi := []) (ca := []) rfl rfl rfl rfl (concat_range m1 _ _ [a.flatMap rC, b.flatMap rC] [a.length, b.length] hS1 rfl rfl (fun i u xs k e1 e2 e3 => ?_) (fun xs hx => ?_) (by simp; omega) (by simp)) ?_
  · match i with
    | 0 =>
      simp only [List.getElem?_cons_zero, Option.some.injEq] at e1 e2 e3
      subst e1; subst e2; subst e3
      exact ⟨h.ext0 hE1, rsC_len a⟩
    | 1 =>
      simp only [List.getElem?_cons_succ, List.getElem?_cons_zero, Option.some.injEq] at e1 e2 e3
      subst e1; subst e2; subst e3
      exact ⟨h'.ext0 hE1, rsC_len b⟩
    | i + 2 => simp at e1
  · simp only [List.mem_cons, List.not_mem_nil, or_false] at hx
    rcases hx with rfl | rfl
    · exact rsC_one a
    · exact rsC_one b
  rintro v2 m2 ⟨S2, hO2, hN2⟩
  refine ⟨_, rfl, ?_⟩
  have hE2 := hE1.trans hN2.1 (by simp)
  have hR2 : Rs m2 [] v2 (a ++ b) := by
    have h9 := hO2.sl (M := []) (by simp)
    have e9 : [a.flatMap rC, b.flatMap rC].flatten = (a ++ b).flatMap rC := by simp
    rw [e9] at h9
    exact h9
  refine RL.call (fi := []) (ca := []) rfl rfl rfl rfl (clean_c m2 _ _ hR2 (by rw [List.length_append]; omega)) ?_
  rintro v3 m3 ⟨S3, hO3, hN3⟩
  refine ⟨_, rfl, ?_⟩
  refine RL.A1 T_ok rfl ?_
  refine RL.N1 ?_; (with_reducible repeat (first | refine QN.B1 ?_ | refine QN.N1 ?_ | refine WP.S1 ?_ | refine WP.B1 ?_ | refine WP.R1 ?_))
  refine WP.ret ?_; (with_reducible repeat (first | refine QN.tr ?_ | refine QN.br ?_))
  exact QN.ret1 rfl rfl ⟨_, rfl, S3, hO3, hE2.trans hN3.1 (by simp), hN3.2.trans' hE2⟩
end Go.Proofs.YtgpgladbdoimdaaGreatDoor
end
section
namespace Go.Proofs.YtgpgladbdoimdaaGreatDoor
open Go.RowKit Go.Ev Go.Ids
end Go.Proofs.YtgpgladbdoimdaaGreatDoor
end
section
namespace Go.Proofs.YtgpgladbdoimdaaGreatDoor
open Go.RowKit Go.Ev Go.Ids
end Go.Proofs.YtgpgladbdoimdaaGreatDoor
end
section
namespace Go.Proofs.YtgpgladbdoimdaaGreatDoor
open Go.RowKit Go.Ev Go.Ids
end Go.Proofs.YtgpgladbdoimdaaGreatDoor
end
section
namespace Go.Proofs.YtgpgladbdoimdaaGreatDoor
open Go.ChangeShapes Go.WideShapes Go.ChangeAt Go.RowKit Go.Ev Go.Ids
end Go.Proofs.YtgpgladbdoimdaaGreatDoor
end
section
namespace Go.Proofs.YtgpgladbdoimdaaGreatDoor
open Go.RowKit Go.Ev Go.Ids
end Go.Proofs.YtgpgladbdoimdaaGreatDoor
end
section
namespace Go.Proofs.YtgpgladbdoimdaaGreatDoor
open Go.RowKit Go.Ev Go.Ids
end Go.Proofs.YtgpgladbdoimdaaGreatDoor
end
section
namespace Go.Proofs.YtgpgladbdoimdaaGreatDoor
open Go.RowKit Go.Ev Go.Ids
end Go.Proofs.YtgpgladbdoimdaaGreatDoor
end
section
namespace Go.Proofs.YtgpgladbdoimdaaGreatDoor
open Go.ChangeShapes Go.WideShapes Go.ChangeAt Go.RowKit Go.Ev Go.Ids
end Go.Proofs.YtgpgladbdoimdaaGreatDoor
end
section
namespace Go.Proofs.YtgpgladbdoimdaaGreatDoor
open Go.RowKit Go.Ev Go.Ids
def tC (x : Trn) : List Value := [.int .u64 x.c, .int .u64 x.f, .int .u64 x.t, .int .u64 x.n]
instance : Inhabited Trn := ⟨⟨0, 0, 0, 0⟩⟩
end Go.Proofs.YtgpgladbdoimdaaGreatDoor
end
