/- A law's row from its contract: it answers true and leaves what came in as it was. No program is named here; no conditions. -/
import Derived.Test.YtmjpcaiehfimgaaSlice
import Derived.ProofKit
import Derived.SizedLaws
namespace Go.Ev
open Go.RowKit Go.WideShapes Go.ChangeShapes
section
variable {H : Type} {enc : TypeId × Value → H} {P : Program}
theorem readsOk_spec {ts : List TypeId} (h : ts.all (fun t => P.readableRec t && decide (t < P.types.size)) = true) {t : TypeId} (ht : t ∈ ts) : P.readableRec t = true ∧ t < P.types.size := by
  have := List.all_eq_true.1 h t ht
  simpa using this
theorem trodAll_carry (hl : laidOutB P = true) {W W' : World} (hb : Below W.heap.size W W') {sp : Nat → Bool} : ∀ {ts : List TypeId} {vs : List Value} {ds : List (DataW H)} {ps : List MemPlace},
    ts.all (fun t => P.readableRec t && decide (t < P.types.size)) = true → DataW.TrodAll enc P W 0 (fun _ => true) true ts vs ds ps → (∀ x ∈ ps, x.block < W.heap.size) → (∀ x ∈ ps, sp x.block = true) →
    DataW.TrodAll enc P W' 0 sp true ts vs ds ps
  | [], [], [], _, _, h, _, _ => h
  | t :: ts, v :: vs, d :: ds, _, hts, ⟨p, q, h1, h2, rfl⟩, hlt, hsp => by
    obtain ⟨hr, hrow⟩ := readsOk_spec hts (List.mem_cons_self ..)
    refine ⟨p, q, ?_, trodAll_carry hl hb (List.all_eq_true.2 fun u hu => List.all_eq_true.1 hts u (List.mem_cons_of_mem _ hu)) h2 (fun x hx => hlt x (List.mem_append_right _ hx)) (fun x hx => hsp x (List.mem_append_right _ hx)), rfl⟩
    exact WideElems.Trod_stays hl hr hrow h1 (fun x hx => hb.same (hlt x (List.mem_append_left _ hx))) (fun x hx => hsp x (List.mem_append_left _ hx))
/-- The post of such a row, where below the heap's old size nothing has turned. -/
theorem post_of_below' {f : Func} {s : ChangeSpec} {apart fresh handsOn again : Bool} {W W' : World} {args : Array Value} {v : Value} {ds gs : List (DataW H)} {before pa pv : List MemPlace}
    (hW : DataW.Whole enc P f.params.toList s.vars apart W args.toList ds gs before)
    (hres : ∀ (b : Nat) (sp : Nat → Bool) (hd : Bool), DataW.TrodAll enc P W' b sp hd f.resultTypes.toList (v.resultList f.resultTypes.size) (s.fn H (ds ++ gs)).results [])
    (hargs : ∀ sp : Nat → Bool, (∀ p ∈ before, sp p.block = true) → DataW.TrodAll enc P W' 0 sp true f.params.toList args.toList (s.fn H (ds ++ gs)).args pa)
    (hvars : ∀ sp : Nat → Bool, (∀ p ∈ before, sp p.block = true) → DataW.TrodVars enc P W' sp s.vars (s.fn H (ds ++ gs)).vars pv)
    (hps : before = pa ++ pv) (hb : Below W.heap.size W W')
    (hok : ∀ (j : Nat) (t : TypeId) (r : Value), f.resultTypes[j]? = some t → (v.resultList f.resultTypes.size)[j]? = some r → Value.okWide P W' .any 0 t r) :
    s.post enc P f apart fresh handsOn again W args v W' := by
  have hlt : ∀ p ∈ before, p.block < W.heap.size := fun p hp => hW.lt p hp
  have hold : ∀ p ∈ before, (fun b => decide (b < W.heap.size)) p.block = true := fun p hp => by simpa using hlt p hp
  refine ⟨ds, gs, before, [], pa, pv, hW, hres _ _ _, hargs _ hold, hvars _ hold, World.keptBut_mono (fun p hp => ⟨hp, ?_⟩) (hb.frame (· ∈ before)), fun _ => ?_⟩
  · rw [hps, List.mem_append] at hp
    exact Or.inr hp
  · obtain ⟨_, _, _, _, _, hz, hn⟩ := hW
    refine ⟨hok, _, _, ([] ++ pa) ++ pv, ⟨[] ++ pa, pv, trodAll_append (hargs _ (fun _ _ => rfl)) (hres _ _ _), hvars _ (fun _ _ => rfl), rfl, ?_, ?_⟩, ?_⟩
    · intro b off hp
      have hin : MemPlace.cell b off ∈ before := by rw [hps]; simpa using hp
      rw [hb.frozen (hlt _ hin)]
      exact hz b off hin
    · intro ha
      have := hn ha
      rw [hps] at this
      simpa using this
    · intro p hp _
      rw [hps]
      simpa using hp
theorem trodAll_len {W : World} {base : Nat} {sp : Nat → Bool} {hd : Bool} : ∀ {ts : List TypeId} {vs : List Value} {ds : List (DataW H)} {ps : List MemPlace}, DataW.TrodAll enc P W base sp hd ts vs ds ps → ds.length = ts.length
  | [], [], [], _, _ => rfl
  | t :: ts, v :: vs, d :: ds, _, ⟨_, _, _, h2, _⟩ => by rw [List.length_cons, List.length_cons, trodAll_len h2]
/-- The row of a law that answers true: from the contract of its function. -/
theorem law_lift {a : Assume} {C : Checked} {os : Os} {f : FuncId} {fn : Func} {s : ChangeSpec} {conds : List PathCond} {apart fresh handsOn again : Bool} {tb : TypeId}
    (own : ownKnob C.prog.godebug = none) (started : os.Started) (noInit : C.prog.inits.idxOf? f = none) (hfn : C.prog.funcs[f]? = some fn)
    (witness : ∃ (w : World) (tape : Tape) (i : Input), w.os = os ∧ (w.forCall tape i).Shaped C.prog ∧ i.vars = [] ∧ Input.okWide C.prog (w.forCall tape i) .any w.heap.size f i ∧
      s.pre6 enc C.prog fn conds apart (w.forCall tape i).memory i.args ∧ a.holds C.prog (lone (Frame.enter C.prog f i.args .normal) [] (w.forCall tape i)))
    (hl : laidOutB C.prog = true) (hts : fn.params.toList.all (fun t => C.prog.readableRec t && decide (t < C.prog.types.size)) = true)
    (hr : fn.resultTypes = #[tb]) (htb : C.prog.underlying tb = some .bool) (hv : s.vars = [])
    (hspec : ∀ ds : List (DataW H), ds.length = fn.params.toList.length → (s.fn H ds).results = [.lit (.bool true)] ∧ (s.fn H ds).args = ds ∧ (s.fn H ds).vars = [])
    (hc : ∀ (W : World) (base : Nat) (args : Array Value) (ds : List (DataW H)) (p : List MemPlace), (∀ (j : Nat) t v, fn.params[j]? = some t → args[j]? = some v → Value.okWide C.prog W .any base t v) →
      DataW.TrodAll enc C.prog W 0 (fun _ => true) true fn.params.toList args.toList ds p → (DataW.weightsEach C.prog fn.params.toList ds).all (· ≤ reachBytes) = true →
      FnR C.prog f args.toList W fun r m' => r = .bool true ∧ Ext W [] m') :
    ReturnsInHanded a C os f .any (s.pre6 enc C.prog fn conds apart) (s.post enc C.prog fn apart fresh handsOn again) := by
  refine returnsInHanded_of_change_sized own started noInit hfn witness ?_
  intro W base args ds gs before hval hW _ hw _
  have hW' := hW
  obtain ⟨p, q, hA, hV, rfl, hfz, hnd⟩ := hW
  rw [hv] at hV
  obtain ⟨rfl, rfl⟩ := trodVars_none hV
  have hvt : s.plain.varTypes C.prog = [] := by
    have : s.plain.vars = [] := hv
    simp [DataSpec.varTypes, this]
  rw [hvt, List.append_nil, List.append_nil] at hw
  have hlen : ds.length = fn.params.toList.length := trodAll_len hA
  obtain ⟨h1, h2, h3⟩ := hspec ds hlen
  have hF := hc W base args ds p hval hA hw
  refine (hF.2 W (Sim.refl W)).mono fun e W' ⟨m', hs, v, he, hvt, hE⟩ => ⟨v, he, ?_⟩
  subst hvt
  have hb : Below W.heap.size W W' := ⟨hs.os.trans hE.os, hs.tape.trans hE.tape, hs.output.trans hE.output, by rw [hs.heap]; exact hE.size, fun k hk => by rw [hs.heap]; exact hE.far k hk (by simp)⟩
  rw [List.append_nil] at hW'
  have hlt : ∀ x ∈ p, x.block < W.heap.size := fun x hx => hW'.lt x hx
  refine post_of_below' (pa := p) (pv := []) hW' (fun b sp hd => ?_) (fun sp hsp => ?_) (fun sp _ => ?_) (by simp) hb (ok_one hr rfl (okWide_bool_mk htb true))
  · rw [List.append_nil, h1, hr]
    exact trodAll_mk1 (shut_bool htb true)
  · rw [List.append_nil, h2]
    exact trodAll_carry hl hb hts hA hlt hsp
  · rw [List.append_nil, h3, hv]
    rfl
/-- What a reading weighs is within the form's reach. -/
def Fit (P : Program) (t : TypeId) (d : DataW H) : Prop := ∀ k ∈ d.weights P t, k ≤ reachBytes
theorem weightsAll_mem {e : TypeId} {k : Nat} : ∀ {ds : List (DataW H)} {d : DataW H}, d ∈ ds → k ∈ d.weights P e → k ∈ DataW.weightsAll P e ds
  | d' :: r, d, h, hk => by
    unfold DataW.weightsAll
    rcases List.mem_cons.1 h with rfl | h
    · exact List.mem_append_left _ hk
    · exact List.mem_append_right _ (weightsAll_mem h hk)
theorem weightsEach_mem {k : Nat} {t : TypeId} : ∀ {i : Nat} {ts : List TypeId} {ds : List (DataW H)} {d : DataW H}, ts[i]? = some t → ds[i]? = some d → k ∈ d.weights P t → k ∈ DataW.weightsEach P ts ds
  | 0, t' :: ts, d' :: ds, d, h1, h2, hk => by
    unfold DataW.weightsEach
    simp only [List.getElem?_cons_zero, Option.some.injEq] at h1 h2
    subst h1; subst h2
    exact List.mem_append_left _ hk
  | i + 1, t' :: ts, d' :: ds, d, h1, h2, hk => by
    unfold DataW.weightsEach
    exact List.mem_append_right _ (weightsEach_mem (by simpa using h1) (by simpa using h2) hk)
  | _, [], _, _, h1, _, _ => by simp at h1
  | _, _ :: _, [], _, _, h2, _ => by simp at h2
theorem Fit.arg {ts : List TypeId} {ds : List (DataW H)} (h : (DataW.weightsEach P ts ds).all (· ≤ reachBytes) = true) (i : Nat) {t : TypeId} {d : DataW H} (ht : ts[i]? = some t) (hd : ds[i]? = some d) : Fit P t d :=
  fun k hk => by have := List.all_eq_true.1 h k (weightsEach_mem ht hd hk); simpa using this
theorem Fit.elem {t e : TypeId} {el rest : List (DataW H)} (ht : P.underlying t = some (.slice e)) (h : Fit P t (.slice el rest)) {d : DataW H} (hd : d ∈ el) : Fit P e d :=
  fun k hk => h k (by unfold DataW.weights; rw [ht]; exact List.mem_cons_of_mem _ (List.mem_append_left _ (weightsAll_mem hd hk)))
theorem Fit.len {t e : TypeId} {el rest : List (DataW H)} (ht : P.underlying t = some (.slice e)) (h : Fit P t (.slice el rest)) : (el.length + rest.length) * P.bytesOf e ≤ reachBytes :=
  h _ (by unfold DataW.weights; rw [ht]; exact List.mem_cons_self ..)
theorem Fit.str {t : TypeId} {bytes : List UInt8} (h : Fit P t (.lit (.string bytes) : DataW H)) : bytes.length ≤ reachBytes := h _ (by unfold DataW.weights; exact List.mem_cons_self ..)
theorem Fit.field {t : TypeId} {fs : List (TypeId × Nat × Nat)} {ds : List (DataW H)} (hk : KOk P t (.stru fs)) (h : Fit P t (.agg ds)) (i : Nat) {ty off sz : Nat} {d : DataW H} (hf : fs[i]? = some (ty, off, sz)) (hd : ds[i]? = some d) : Fit P ty d := by
  obtain ⟨F, hF, rfl⟩ := hk
  refine fun k hk => h k ?_
  unfold DataW.weights
  rw [hF]
  refine weightsEach_mem (i := i) ?_ hd hk
  rw [List.getElem?_map] at hf ⊢
  cases hx : F.toList[i]? with
  | none => rw [hx] at hf; cases hf
  | some f =>
    rw [hx] at hf
    simp only [Option.map_some, Option.some.injEq, Prod.mk.injEq] at hf ⊢
    exact hf.1
/-- A slice that came in, opened element by element. -/
theorem open_sl {α : Type} {W : World} {sp : Nat → Bool} {hd : Bool} {base fuel sz : Nat} {t e : TypeId} {cs : List Value} {x : DataW H × List MemPlace} (enc' : α → List Value) (Good : α → Prop)
    (ht : P.underlying t = some (.slice e)) (hC : P.cellsOf e = sz) (hfit : Fit P t x.1) (hel : ∀ (cs : List Value) (n : Nat) (y : DataW H × List MemPlace), cs.length = sz → DataW.trod enc P W base sp hd n e cs = some y → Fit P e y.1 → ∃ a, cs = enc' a ∧ Good a)
    (h : DataW.trod enc P W base sp hd fuel t cs = some x) : ∃ (v : Value) (l : List α), cs = [v] ∧ Sl W [] sz v (l.flatMap enc') ∧ ∀ a ∈ l, Good a := by
  rcases DataW.trod_slice ht h with ⟨rfl, _⟩ | ⟨a, len, cap, elems, rest, n, _, rfl, rfl, _, hl, hm, hlen, hi, _⟩
  · exact ⟨_, [], rfl, Sl.nil _ _ _, by simp⟩
  · refine ⟨.slice (some a) len cap, ?_⟩
    have key : ∀ k, k ≤ len → ∃ l : List α, (l.flatMap enc').length = k * sz ∧ (∀ j u, (l.flatMap enc')[j]? = some u → W.cell? (a.add j) = some u) ∧ ∀ b ∈ l, Good b := by
      intro k
      induction k with
      | zero => intro _; exact ⟨[], by simp, by simp, by simp⟩
      | succ k ih =>
        intro hk
        obtain ⟨l, h1, h2, h3⟩ := ih (by omega)
        have hik := hi k (by omega)
        rw [hC, List.getElem?_eq_getElem (by omega)] at hik
        obtain ⟨cs', hc1, hc2⟩ := Option.bind_eq_some_iff.1 hik
        obtain ⟨_, hcl, hat⟩ := World.cells?_some hc1
        obtain ⟨b, rfl, hb⟩ := hel cs' n _ hcl hc2 (Fit.elem ht hfit (List.mem_map.2 ⟨elems[k]'(by omega), List.getElem_mem _, rfl⟩))
        refine ⟨l ++ [b], ?_, ?_, ?_⟩
        · simp [h1, hcl, Nat.add_mul]
        · intro j u hu
          simp only [List.flatMap_append, List.flatMap_cons, List.flatMap_nil, List.append_nil] at hu
          by_cases hj : j < k * sz
          · rw [List.getElem?_append_left (by omega)] at hu
            exact h2 j u hu
          · rw [List.getElem?_append_right (by omega), h1] at hu
            have hjs : j - k * sz < sz := by have h9 := (List.getElem?_eq_some_iff.1 hu).1; omega
            have := hat (j - k * sz) hjs
            rw [add_add, show k * sz + (j - k * sz) = j by omega] at this
            exact this.trans hu
        · intro c hc
          rcases List.mem_append.1 hc with hc | hc
          · exact h3 c hc
          · have : c = b := by simpa using hc
            subst this; exact hb
    obtain ⟨l, h1, h2, h3⟩ := key len (Nat.le_refl _)
    exact ⟨l, rfl, ⟨some a, len, cap, rfl, hl, hm, h1, (fun hh => by cases hh), fun _ => ⟨a, rfl, by simp, h2⟩⟩, h3⟩
/-- A struct, opened at its fields. -/
theorem open_stru {W : World} {sp : Nat → Bool} {hd : Bool} {base fuel : Nat} {t : TypeId} {cs : List Value} {x : DataW H × List MemPlace} {fs : List (TypeId × Nat × Nat)} (hk : KOk P t (.stru fs)) (h : DataW.trod enc P W base sp hd fuel t cs = some x) :
    ∃ n ds, x.1 = .agg ds ∧ cs.length = P.cellsOf t ∧ ∀ (i ty off sz : Nat), fs[i]? = some (ty, off, sz) → ∃ y, DataW.trod enc P W base sp hd n ty ((cs.drop off).take sz) = some y ∧ ds[i]? = some y.1 := by
  obtain ⟨F, hF, rfl⟩ := hk
  obtain ⟨xs, n, _, rfl, hl, hxl, hall⟩ := DataW.trod_struct hF h
  refine ⟨n, _, rfl, hl, fun i ty off sz hi => ?_⟩
  rw [List.getElem?_map] at hi
  cases hf : F.toList[i]? with
  | none => rw [hf] at hi; cases hi
  | some f =>
    rw [hf] at hi
    simp only [Option.map_some, Option.some.injEq, Prod.mk.injEq] at hi
    obtain ⟨rfl, rfl, rfl⟩ := hi
    have hf' : F[i]? = some f := by simpa using hf
    have hlt : i < F.size := (Array.getElem?_eq_some_iff.1 hf').1
    have := hall i f hf'
    rw [List.getElem?_eq_getElem (by omega)] at this
    exact ⟨_, this, by rw [List.getElem?_map, List.getElem?_eq_getElem (by omega)]; rfl⟩
theorem int_wf {k : IntKind} {z lo hi : Int} (hw : (Lit.int k z).wf = true) (h1 : k.min = lo) (h2 : k.max = hi) : lo ≤ z ∧ z ≤ hi := by
  subst h1; subst h2
  simpa [Lit.wf] using hw
theorem cells_toList_one {v u : Value} (h : v.cells.toList = [u]) (hv : ∃ A n c, v = .slice A n c) : v = u := by
  obtain ⟨A, n, c, rfl⟩ := hv
  simpa [Value.cells] using h
theorem flatMap_one {α : Type} (f : α → Value) : ∀ l : List α, l.flatMap (fun a => [f a]) = l.map f
  | [] => rfl
  | a :: l => by rw [List.flatMap_cons, flatMap_one f l]; rfl
/-- A slice of bytes that came in. -/
theorem open_bytes {W : World} {b0 : Nat} {r : Reach} {t e : TypeId} {v : Value} {d : DataW H} {ps : List MemPlace} (ht : P.underlying t = some (.slice e)) (he : P.underlying e = some (.int .u8)) (hC : P.cellsOf e = 1)
    (hok : Value.okWide P W r b0 t v) (hfit : Fit P t d) (h : DataW.Trod enc P W 0 (fun _ => true) true t v d ps) : ∃ l, Bs W [] v l := by
  obtain ⟨fuel, h⟩ := h
  obtain ⟨u, l, hcs, hS, _⟩ := open_sl (α := UInt8) (fun b => [Value.int .u8 b.toNat]) (fun _ => True) ht hC hfit (fun cs n y _ hy _ => by
    obtain ⟨z, rfl, _, hw⟩ := DataW.trod_int he hy
    have hz : 0 ≤ z ∧ z < 256 := by
      have h1 : IntKind.u8.min = 0 := by decide
      have h2 : IntKind.u8.max = 255 := by decide
      simp only [Lit.wf, h1, h2, Bool.and_eq_true, decide_eq_true_eq] at hw
      omega
    refine ⟨UInt8.ofNat z.toNat, ?_, trivial⟩
    have : (UInt8.ofNat z.toNat).toNat = z.toNat := by rw [UInt8.toNat_ofNat', Nat.mod_eq_of_lt (by omega)]
    rw [this, Int.toNat_of_nonneg hz.1]) h
  have := cells_toList_one hcs (okWide_slice ht hok)
  subst this
  rw [flatMap_one] at hS
  exact ⟨l, hS⟩
end
end Go.Ev
