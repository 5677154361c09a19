/- slices.SortFunc at structs, in a walk's words: out of the shelf's contract. No program; what is asked stands in the statement. -/
import Derived.Test.YtmjpcaiehfimgaaMake
import Derived.Shelf.SlSortCmp.WholeK
import Derived.Shelf.SlSortCmp.NoneTotal
namespace Go.Ev
open Go.RowKit Go.Sort Go.Shelf Go.Proofs

/-- A world that parts from another in new blocks and draws alone. -/
theorem grow_of_ext {W m' w' : World} (hE : Ext W [] m') (hs : Sim m' w') : ∃ q os', w' = grow (W.drewN q) os' := by
  refine ⟨w'.drawn - W.drawn, w'.heap.extract W.heap.size w'.heap.size, ?_⟩
  have h1 : W.drawn ≤ w'.drawn := Nat.le_trans hE.drawn hs.drawn
  have h2 : W.heap ++ w'.heap.extract W.heap.size w'.heap.size = w'.heap := by
    have hsz : W.heap.size ≤ w'.heap.size := by rw [hs.heap]; exact hE.size
    apply Array.ext
    · simp; omega
    · intro i h3 h4
      by_cases hi : i < W.heap.size
      · rw [Array.getElem_append_left hi]
        have := hE.far i hi (by simp)
        rw [← hs.heap] at this
        rw [Array.getElem?_eq_getElem hi, Array.getElem?_eq_getElem h4] at this
        exact (Option.some.inj this).symm
      · rw [Array.getElem_append_right (by omega), Array.getElem_extract]
        congr 1; omega
  obtain ⟨h, t, d, o, u⟩ := w'
  obtain ⟨h', t', d', o', u'⟩ := W
  have e1 : t = t' := hs.tape.trans hE.tape
  have e2 : o = o' := hs.os.trans hE.os
  have e3 : u = u' := hs.output.trans hE.output
  subst e1; subst e2; subst e3
  simp only at h1 h2
  unfold grow World.drewN
  simp only
  rw [h2]
  congr 1; omega
/-- A store of several cells into an owned row. -/
theorem _root_.Go.Ev.Own.putK {m : World} {S : List Nat} {t : TypeId} {sz : Nat} {v : Value} {n j k : Nat} {xs : List Value} (h : Own m S t sz v n xs) (hk : 0 < k) (hj : j + k ≤ n * sz) :
    ∃ g cap cur, v = .slice (some ⟨g, 0, none⟩) n cap ∧ Blk m g t cur ∧ S = [g] ∧ j + k ≤ cur.length ∧ ∀ m' vs, vs.length = k → Chg m g (.cells (cur.take j ++ vs ++ cur.drop (j + k)).toArray t (0, 0)) m' → Own m' S t sz v n (xs.take j ++ vs ++ xs.drop (j + k)) := by
  have hn : 0 < n := by
    rcases Nat.eq_zero_or_pos n with h0 | h0
    · subst h0; simp at hj; omega
    · exact h0
  obtain ⟨g, cap, cur, rfl, hB, hcap, hcm, hcl, hct, rfl⟩ := h.at_ hn
  have hlen := h.1
  have hjc : j + k ≤ cur.length := by rw [hcl]; exact Nat.le_trans hj (Nat.mul_le_mul_right _ hcap)
  obtain ⟨rest, rfl⟩ : ∃ rest, cur = xs ++ rest := ⟨cur.drop (n * sz), by rw [← hct, List.take_append_drop]⟩
  refine ⟨g, cap, _, rfl, hB, rfl, hjc, fun m' vs hv hC => ?_⟩
  have e1 : (xs ++ rest).take j = xs.take j := List.take_append_of_le_length (by omega)
  have e2 : (xs ++ rest).drop (j + k) = xs.drop (j + k) ++ rest := List.drop_append_of_le_length (by omega)
  have e3 : (xs.take j ++ vs ++ xs.drop (j + k)).length = n * sz := by simp [hv]; omega
  rw [e1, e2] at hC
  refine ⟨e3, .inr ⟨g, cap, _, rfl, hC.blk, hcap, hcm, ?_, ?_, rfl⟩⟩
  · rw [← hcl]
    simp only [List.length_append, List.length_take, List.length_drop, hv]; omega
  · rw [← List.append_assoc, ← e3, List.take_left]
section
variable {α : Type} [Inhabited α]
omit [Inhabited α] in
theorem flatMap_get (enc : α → List Value) (k : Nat) (hk : ∀ x, (enc x).length = k) : ∀ (l : List α) (i j : Nat), j < k → (h : i < l.length) → (l.flatMap enc)[i * k + j]? = (enc l[i])[j]?
  | x :: l, 0, j, hj, _ => by
    rw [List.flatMap_cons, List.getElem?_append_left (by rw [hk]; omega)]
    simp
  | x :: l, i + 1, j, hj, h => by
    rw [List.flatMap_cons, List.getElem?_append_right (by rw [hk, Nat.succ_mul]; omega), hk]
    rw [show (i + 1) * k + j - k = i * k + j by rw [Nat.succ_mul]; omega]
    rw [flatMap_get enc k hk l i j hj (by simpa using h)]
    simp
omit [Inhabited α] in
theorem flatMap_len (enc : α → List Value) (k : Nat) (hk : ∀ x, (enc x).length = k) : ∀ l : List α, (l.flatMap enc).length = l.length * k
  | [] => by simp
  | x :: l => by rw [List.flatMap_cons, List.length_append, hk, flatMap_len enc k hk l, List.length_cons, Nat.succ_mul, Nat.add_comm]
theorem flatK_list (enc : α → List Value) (k : Nat) (hk : ∀ x, (enc x).length = k) (hk0 : 0 < k) (d : Array α) : flatK enc k d = (d.toList.flatMap enc).toArray := by
  apply ext_get!
  · have h9 := flatMap_len enc k hk d.toList
    rw [show d.toList.length = d.size from Array.length_toList] at h9
    rw [size_flatK, ← h9]
    exact (List.size_toArray ..).symm
  · intro t ht
    rw [size_flatK] at ht
    rw [get_flatK _ _ _ _ ht]
    have hq : t / k < d.toList.length := by rw [Array.length_toList]; exact Nat.div_lt_of_lt_mul (by rw [Nat.mul_comm]; exact ht)
    have hm : t % k < k := Nat.mod_lt _ hk0
    have h1 := flatMap_get enc k hk d.toList (t / k) (t % k) hm hq
    rw [Nat.mul_comm, Nat.div_add_mod] at h1
    have h2 : t < (d.toList.flatMap enc).length := by rw [flatMap_len enc k hk, Array.length_toList]; exact ht
    rw [List.getElem?_eq_getElem h2, List.getElem?_eq_getElem (by rw [hk]; exact hm)] at h1
    rw [getElem!_pos (d.toList.flatMap enc).toArray t (by simpa using h2)]
    have h3 : d[t / k]! = d.toList[t / k] := by rw [getElem!_pos d _ (by simpa using hq)]; simp
    rw [h3, getElem!_pos (enc d.toList[t / k]) _ (by rw [hk]; exact hm)]
    simpa using (Option.some.inj h1).symm
theorem putCells_list (F : List Value) (cur : List Value) (h : F.length ≤ cur.length) : putCells id 0 F.toArray cur.toArray = (F ++ cur.drop F.length).toArray := by
  unfold putCells
  apply Array.ext
  · simp; omega
  · intro i h1 h2
    simp only [Array.getElem_mapIdx, Nat.zero_le, true_and, Nat.zero_add, List.size_toArray, Nat.sub_zero, id]
    by_cases hi : i < F.length
    · rw [if_pos hi, getElem!_pos F.toArray i (by simpa using hi)]
      simp [List.getElem_append_left hi]
    · rw [if_neg hi]
      simp [List.getElem_append_right (Nat.le_of_not_lt hi)]
      congr 1; omega
theorem sortFunc_run {P : Program} {ρ : Ren} (L : SlLaysF0.n6 P ρ) (k : Nat) (hk0 : 0 < k) (aE : ∀ w, (isAgg (ρ.t 24)).run P w = .ok true w) (zE : ∀ w, (Go.sizeOf (ρ.t 24)).run P w = .ok k w) (enc : α → List Value) (hk : ∀ x, (enc x).length = k) (h1 : ∀ x, ∀ v ∈ enc x, v.oneCell' = true)
    (cf : α → α → Int) (hO : SWO (ltOf cf)) (g : Nat) (hcg : Callable P g) (hcs : Callable P (ρ.f 6)) (hcmp : ∀ W x y, FnR P g [.agg (enc x).toArray, .agg (enc y).toArray] W fun r m' => r = .int .i64 (cf x y) ∧ Ext W [] m')
    {m : World} {S : List Nat} {te : TypeId} {v : Value} {l : List α} (hown : Own m S te k v l.length (l.flatMap enc)) (hl : l.length < 4611686018427387904) :
    FnR P (ρ.f 6) [v, .func (.func g) #[] #[]] m fun r m' => r = .tuple #[] ∧ Ext m S m' ∧ ∃ l' : List α, l'.Perm l ∧ l'.Pairwise (fun x y => ltOf cf y x = false) ∧ Own m' S te k v l'.length (l'.flatMap enc) := by
  have eg : ∀ args w, (callFunc g args).run P w = .ok (.enter g args) w := fun args w => callFunc_run hcg args w
  refine ⟨hcs, fun w hs => ?_⟩
  by_cases hn0 : l.length = 0
  · have hl0 : l = [] := List.eq_nil_of_length_eq_zero hn0
    subst hl0
    obtain ⟨A, c, rfl, _⟩ := hown.shape
    refine (AnyF.slices_SortFunc_none L A c (.func (.func g) #[] #[]) w).mono ?_
    rintro e w' ⟨rfl, rfl⟩
    exact ⟨m, hs, _, rfl, rfl, Ext.refl _ _, [], List.Perm.refl _, List.Pairwise.nil, hown⟩
  obtain ⟨b, cap, cur, rfl, hB, hnc, hcm, hcl, htake, rfl⟩ := hown.at_ (by omega)
  have hw : w.heap[b]? = some (.cells cur.toArray te (0, 0)) := by rw [hs.heap]; exact hB
  have hfl := flatMap_len enc k hk l
  have hcur : (l.flatMap enc).length ≤ cur.length := by rw [hfl, hcl]; exact Nat.mul_le_mul_right _ hnc
  have hF := flatK_list enc k hk hk0 l.toArray
  have hH : HoldsK enc k w b 0 l.toArray := by
    intro j hj
    rw [size_flatK, List.size_toArray] at hj
    rw [hF]
    have hj' : j < (l.flatMap enc).length := by rw [hfl]; exact hj
    have hjc : j < cur.length := by omega
    have hx : cur[j] = (l.flatMap enc)[j] := by
      have : (cur.take (l.length * k))[j]? = (l.flatMap enc)[j]? := by rw [htake]
      rw [List.getElem?_take, if_pos hj, List.getElem?_eq_getElem hjc, List.getElem?_eq_getElem hj'] at this
      exact Option.some.inj this
    constructor
    · simp only [Nat.zero_add, World.cell?, hw, id]
      rw [getElem!_pos _ j (by simpa using hj')]
      simp [hjc, hx]
    · simp only [Nat.zero_add, World.frozen?, hw]
      simp
  have hlays : CmpLays P g #[] enc k cf b 0 l.toArray.size w := fun q os dk _ x y => by
    have h2 := (hcmp (sortWorldK enc k w b 0 q dk os) x y).2 _ (Sim.refl _)
    refine Calls.mono h2 ?_
    rintro e w' ⟨m', hs', r, rfl, rfl, hE⟩
    exact ⟨rfl, grow_of_ext hE hs'⟩
  have hcall := AnyQ.slices_SortFunc L k aE zE enc hk h1 cf hO g #[] b 0 cap l.toArray w eg hlays hH (by rw [hs.size]; exact hB.lt) (by simpa using hl)
  simp only [List.size_toArray] at hcall
  refine Calls.mono hcall ?_
  rintro e w' ⟨rfl, d', q, os, hp, hsrt, rfl⟩
  obtain ⟨hp1, _, hp2⟩ := hp
  have hsz' : d'.size = l.length := by simpa using hp1
  have hperm : d'.toList.Perm l := by
    have e1 : (d'.extract 0 l.length).toList = d'.toList := by simp [← hsz']
    have e2 : (l.toArray.extract 0 l.length).toList = l := by simp
    rw [e1, e2] at hp2; exact hp2
  have hF' := flatK_list enc k hk hk0 d'
  have hlen' : (d'.toList.flatMap enc).length = (l.flatMap enc).length := by rw [flatMap_len enc k hk, hfl, Array.length_toList, hsz']
  -- the world behind
  have hheap : (putRowK enc k (Go.Sort.ahead w q) b 0 d').heap[b]? = some (.cells (d'.toList.flatMap enc ++ cur.drop (l.flatMap enc).length).toArray te (0, 0)) := by
    unfold putRowK putRow mapBlock
    rw [hF']
    show (w.heap.modify b _)[b]? = _
    rw [Array.getElem?_modify, if_pos rfl, hw]
    simp only [Option.map_some, onCells]
    rw [putCells_list _ _ (by rw [hlen']; exact hcur), hlen']
  have hother : ∀ j, j ≠ b → (putRowK enc k (Go.Sort.ahead w q) b 0 d').heap[j]? = w.heap[j]? := fun j hj => by
    unfold putRowK putRow mapBlock
    show (w.heap.modify b _)[j]? = _
    rw [Array.getElem?_modify, if_neg (Ne.symm hj)]
  have hsize : (putRowK enc k (Go.Sort.ahead w q) b 0 d').heap.size = w.heap.size := by
    unfold putRowK putRow mapBlock
    show (w.heap.modify b _).size = _
    simp
  have hgrow : ∀ j, j < w.heap.size → (sortWorldK enc k w b 0 q d' os).heap[j]? = (putRowK enc k (Go.Sort.ahead w q) b 0 d').heap[j]? := fun j hj => by
    unfold sortWorldK grow
    show (_ ++ os)[j]? = _
    rw [Array.getElem?_append_left (by rw [hsize]; exact hj)]
  have hbw : b < w.heap.size := by rw [hs.size]; exact hB.lt
  refine ⟨sortWorldK enc k w b 0 q d' os, Sim.refl _, _, rfl, rfl, ?_, d'.toList, hperm, ?_, ?_⟩
  · refine ⟨?_, ?_, ?_, ?_, fun j hj hn => ?_, ?_⟩
    · exact hs.os
    · exact hs.tape
    · exact hs.output
    · show m.heap.size ≤ (_ ++ os).size
      rw [Array.size_append, hsize, hs.size]; omega
    · rw [hgrow j (by rw [hs.size]; exact hj), hother j (by simpa using hn), hs.heap]
    · show m.drawn ≤ w.drawn + q
      have := hs.drawn; omega
  · rw [List.pairwise_iff_getElem]
    intro i j hi hj hij
    have := hsrt i j (Nat.zero_le _) hij (by simpa [hsz'] using hj)
    rw [getElem!_pos d' i (by simpa using hi), getElem!_pos d' j (by simpa using hj)] at this
    simpa using this
  · have hlen2 : d'.toList.length = l.length := by rw [Array.length_toList, hsz']
    refine ⟨by rw [hlen', hfl, hlen2], .inr ⟨b, cap, d'.toList.flatMap enc ++ cur.drop (l.flatMap enc).length, by rw [hlen2], ?_, by rw [hlen2]; exact hnc, hcm, ?_, ?_, rfl⟩⟩
    · show (sortWorldK enc k w b 0 q d' os).heap[b]? = _
      rw [hgrow b hbw, hheap]
    · rw [List.length_append, hlen', List.length_drop, hcl]
      rw [hcl] at hcur; omega
    · rw [hlen2, ← hfl, ← hlen']
      exact List.take_left
end
end Go.Ev
