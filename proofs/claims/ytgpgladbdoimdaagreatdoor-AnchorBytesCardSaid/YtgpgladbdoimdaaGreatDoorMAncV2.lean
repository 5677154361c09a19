/- Texts that belong together. -/
import Derived.Test.YtgpgladbdoimdaaGreatDoorMAncV1
import Derived.Laws.BytesString
import Derived.ProofKit
import Derived.SizedLaws
import Derived.Lay
import Derived.LaidMore
import Derived.Stop.Joined
import Derived.RangeFuncRecord
import Derived.RangeFuncOwn
import Derived.Scope
section
namespace Go.Ev
open Go.RowKit
section
variable {m m' : World} {M : List Nat} {sz n c : Nat} {v : Value} {A : Option Addr} {xs : List Value}
theorem Sl.shape {n : Nat} (h : Sl m M sz v xs) (hn : xs.length = n * sz) (hsz : 0 < sz) : ∃ A c, v = .slice A n c ∧ n ≤ c ∧ c ≤ maxLen := by
  obtain ⟨A, n', c, hv, hnc, hc, hl, _, _⟩ := h
  have : n' = n := Nat.eq_of_mul_eq_mul_right hsz (hl.symm.trans hn)
  subst this
  exact ⟨A, c, hv, hnc, hc⟩
theorem Sl.len (h : Sl m M sz (.slice A n c) xs) : xs.length = n * sz ∧ n ≤ c ∧ c ≤ maxLen := by
  obtain ⟨A', n', c', hv, hnc, hc, hl, _, _⟩ := h
  injection hv with h1 h2 h3
  subst h1; subst h2; subst h3
  exact ⟨hl, hnc, hc⟩
theorem Sl.one (h : Sl m M sz v xs) : v.oneCell' = true := by
  obtain ⟨A, n', c, rfl, _⟩ := h; rfl
theorem Sl.addr (h : Sl m M sz (.slice A n c) xs) (hn : 0 < n) : ∃ ad, A = some ad ∧ ad.block ∉ M ∧ ∀ j u, xs[j]? = some u → m.cell? (ad.add j) = some u := by
  obtain ⟨A', n', c', hv, hnc, hc, hl, hA, hr⟩ := h
  injection hv with h1 h2 h3
  subst h1; subst h2; subst h3
  exact hr hn
theorem Sl.from_ (h : Sl m M sz (.slice A n c) xs) {l : Nat} (hl : l ≤ n) : Sl m M sz (.slice (if c = l then A else A.map (·.add (l * sz))) (n - l) (c - l)) (xs.drop (l * sz)) := by
  obtain ⟨A', n', c', hv, hnc, hc, hlen, hA, hr⟩ := h
  injection hv with h1 h2 h3
  subst h1; subst h2; subst h3
  refine ⟨_, n - l, c - l, rfl, by omega, by omega, by rw [List.length_drop, hlen, Nat.sub_mul], fun hn => ?_, fun hn => ?_⟩
  · split at hn
    · omega
    · cases A with
      | none => have := hA rfl; omega
      | some a => cases hn
  · obtain ⟨ad, rfl, hb, hcell⟩ := hr (by omega)
    rw [if_neg (by omega)]
    refine ⟨ad.add (l * sz), rfl, by rw [block_add]; exact hb, fun j u hu => ?_⟩
    rw [add_add]
    exact hcell _ u (by rw [← hu, List.getElem?_drop])
theorem Sl.upto (h : Sl m M sz (.slice A n c) xs) {l k : Nat} (hl : l ≤ n) (hk : l ≤ k) (hkc : k ≤ c) : Sl m M sz (.slice A l k) (xs.take (l * sz)) := by
  obtain ⟨A', n', c', hv, hnc, hc, hlen, hA, hr⟩ := h
  injection hv with h1 h2 h3
  subst h1; subst h2; subst h3
  refine ⟨A, l, k, rfl, hk, by omega, ?_, fun hn => by have := hA hn; omega, fun hn => ?_⟩
  · rw [List.length_take, hlen]; exact Nat.min_eq_left (Nat.mul_le_mul_right _ hl)
  · obtain ⟨ad, rfl, hb, hcell⟩ := hr (by omega)
    refine ⟨ad, rfl, hb, fun j u hu => hcell j u ?_⟩
    rw [List.getElem?_take] at hu
    split at hu
    · exact hu
    · cases hu
end
section
variable {P : Program} {T : Ty} {ops : Array Oper} {Q : Exit → Act → World → Prop} {rest : List Oper} {n : Nat} {e e' : Env} {D : Fr} {m : World} {M : List Nat}
  {d : Option Tmp} {x y : Operand} {t ty tx : TypeId} {pos : String} {aft : Array Edge} {g : Option (Nat × Bool)} {v : Value} {r : Row} {A : Option Addr} {len cap : Nat}
def Ty.sliceOf (T : Ty) (t : TypeId) : Option Nat := match T.row t with
  | some rt => match rt.k with
    | .sli te => match T.row te with
      | some r => some r.size
      | none => none
    | _ => none
  | none => none
theorem Ty.sliceOf_spec {T : Ty} {t : TypeId} {s : Nat} (h : T.sliceOf t = some s) : ∃ rt te r, T.row t = some rt ∧ rt.k = .sli te ∧ T.row te = some r ∧ r.size = s := by
  unfold Ty.sliceOf at h
  split at h
  · rename_i rt hrt
    split at h
    · rename_i te hk
      split at h
      · rename_i r hr; exact ⟨rt, te, r, hrt, hk, hr, Option.some.inj h⟩
      · cases h
    · cases h
  · cases h
theorem sizeOf_run (hT : T.Ok P) {s : Nat} (hs : T.sliceOf t = some s) (w : World) : ∃ te, P.underlying t = some (.slice te) ∧ (sizeOf te).run P w = .ok s w := by
  obtain ⟨rt, te, r, hrt, hk, hr, rfl⟩ := Ty.sliceOf_spec hs
  have hu := (hT.row hrt).k
  rw [hk] at hu
  exact ⟨te, hu, (hT.row hr).run_size w⟩
theorem RL.sliceFrom (hT : T.Ok P) {s l : Nat} {k : IntKind} {j : Int} (hs : T.sliceOf t = some s) (hg : gd ops e ⟨d, .slice t x (some y) none none, ty, pos, aft, g⟩ = some true) (hx : e.ev x = some (.slice A len cap)) (hy : e.ev y = some (.int k j)) (hj : j = (l : Int)) (hl : l ≤ len)
    (hp : putE n d (.slice (if cap = l then A else A.map (·.add (l * s))) (len - l) (cap - l)) e = some e') (h : RL P ops Q rest n e' D m) : RL P ops Q (⟨d, .slice t x (some y) none none, ty, pos, aft, g⟩ :: rest) n e D m := by
  subst hj
  refine RL.value _ hg (fun a w hf _ => ?_) hp h
  obtain ⟨te, hu, hsz⟩ := sizeOf_run hT hs w
  simp [execOp, hf.ev hx, hf.ev hy, Instr.sliceAt, Instr.slice, Instr.sliceBounds, Instr.sliceBound, asIntOf, run_underlying hu, hsz, hl]
theorem RL.sliceTo (hT : T.Ok P) {s l : Nat} {k : IntKind} {j : Int} (hs : T.sliceOf t = some s) (hg : gd ops e ⟨d, .slice t x none (some y) none, ty, pos, aft, g⟩ = some true) (hx : e.ev x = some (.slice A len cap)) (hy : e.ev y = some (.int k j)) (hj : j = (l : Int)) (hl : l ≤ cap)
    (hp : putE n d (.slice A l cap) e = some e') (h : RL P ops Q rest n e' D m) : RL P ops Q (⟨d, .slice t x none (some y) none, ty, pos, aft, g⟩ :: rest) n e D m := by
  subst hj
  refine RL.value _ hg (fun a w hf _ => ?_) hp h
  obtain ⟨te, hu, hsz⟩ := sizeOf_run hT hs w
  have hA : (if cap = 0 then A else A.map (·.add 0)) = A := by split <;> cases A <;> simp [Addr.add]
  simp [execOp, hf.ev hx, hf.ev hy, Instr.sliceAt, Instr.slice, Instr.sliceBounds, Instr.sliceBound, asIntOf, run_underlying hu, hsz, hl, hA]
theorem RL.sliceTo3 (hT : T.Ok P) {z : Operand} {s l q : Nat} {k k' : IntKind} {j j' : Int} (hs : T.sliceOf t = some s) (hg : gd ops e ⟨d, .slice t x none (some y) (some z), ty, pos, aft, g⟩ = some true) (hx : e.ev x = some (.slice A len cap)) (hy : e.ev y = some (.int k j)) (hz : e.ev z = some (.int k' j')) (hj : j = (l : Int)) (hj' : j' = (q : Int)) (hl : l ≤ q) (hq : q ≤ cap)
    (hp : putE n d (.slice A l q) e = some e') (h : RL P ops Q rest n e' D m) : RL P ops Q (⟨d, .slice t x none (some y) (some z), ty, pos, aft, g⟩ :: rest) n e D m := by
  subst hj; subst hj'
  refine RL.value _ hg (fun a w hf _ => ?_) hp h
  obtain ⟨te, hu, hsz⟩ := sizeOf_run hT hs w
  have hA : (if q = 0 then A else A.map (·.add 0)) = A := by split <;> cases A <;> simp [Addr.add]
  simp [execOp, hf.ev hx, hf.ev hy, hf.ev hz, Instr.sliceAt, Instr.slice, Instr.sliceBounds, Instr.sliceBound, asIntOf, run_underlying hu, hsz, hl, hq, hA]
theorem RL.index (hT : T.Ok P) {s : Nat} {xs : List Value} (hS : Sl m M s (.slice A len cap) xs) {k : Nat} {j : Int} {kk : IntKind} (hj : j = (k : Int)) (hlt : k < len) (hs : T.sliceOf t = some s)
    (hg : gd ops e ⟨d, .indexAddr t x y, ty, pos, aft, g⟩ = some true) (hx : e.ev x = some (.slice A len cap)) (hy : e.ev y = some (.int kk j))
    (h : ∀ ad, A = some ad → ad.block ∉ M → (∀ i u, xs[k * s + i]? = some u → m.cell? ((ad.add (k * s)).add i) = some u) → ∃ e', putE n d (.pointer (some (ad.add (k * s)))) e = some e' ∧ RL P ops Q rest n e' D m) : RL P ops Q (⟨d, .indexAddr t x y, ty, pos, aft, g⟩ :: rest) n e D m := by
  obtain ⟨ad, rfl, hb, hc⟩ := hS.addr (by omega)
  obtain ⟨rt, te, r, hrt, hk, hr, rfl⟩ := Ty.sliceOf_spec hs
  obtain ⟨e', hp, hk'⟩ := h ad rfl hb (fun i u hu => by rw [add_add]; exact hc _ u hu)
  exact RL.indexAddr hT hrt hk hr hg hx hy hj hlt hp hk'
theorem u8s_length (l : List UInt8) : (u8s l).length = l.length := by simp [u8s]
theorem u8s_append (a b : List UInt8) : u8s (a ++ b) = u8s a ++ u8s b := by simp [u8s]
theorem u8s_drop (l : List UInt8) (k : Nat) : u8s (l.drop k) = (u8s l).drop k := by simp [u8s]
theorem u8s_take (l : List UInt8) (k : Nat) : u8s (l.take k) = (u8s l).take k := by simp [u8s]
theorem u8s_one (l : List UInt8) : ∀ u ∈ u8s l, u.oneCell' = true := by intro u hu; obtain ⟨b, _, rfl⟩ := List.mem_map.1 hu; rfl
theorem u8s_get (l : List UInt8) (k : Nat) (h : k < l.length) : (u8s l)[k]? = some (.int .u8 (l[k]).toNat) := by simp [u8s, h]
def Bs (m : World) (M : List Nat) (v : Value) (l : List UInt8) : Prop := Sl m M 1 v (u8s l)
theorem Bs.shape {l : List UInt8} (h : Bs m M v l) : ∃ A c, v = .slice A l.length c ∧ l.length ≤ c ∧ c ≤ maxLen := Sl.shape h (by simp [u8s_length]) (by omega)
def str (l : List UInt8) : ByteArray := ⟨l.toArray⟩
theorem str_toList (l : List UInt8) : (str l).toList = l := ByteArray.toList_mk l
theorem push_bytes (l : List UInt8) : ∀ (acc : ByteArray), (l.map fun b => ((b.toNat : Nat) : Int)).foldl (fun r n => r.push (UInt8.ofNat n.toNat)) acc = ⟨acc.data ++ l.toArray⟩ := by
  induction l with
  | nil => intro acc; simp
  | cons b l ih =>
    intro acc
    simp only [List.map_cons, List.foldl_cons]
    rw [ih]
    have : (acc.push (UInt8.ofNat ((b.toNat : Nat) : Int).toNat)).data = acc.data.push b := by
      show acc.data.push _ = _
      simp
    rw [this]
    congr 1
    apply Array.ext'
    simp
theorem RL.byteAt (hT : T.Ok P) {l : List UInt8} {c : Nat} (hB : Bs m M (.slice A l.length c) l) {k : Nat} {j : Int} {kk : IntKind} (hj : j = (k : Int)) (hlt : k < l.length) {d1 d2 : Tmp} {t2 ty2 : TypeId} {pos2 : String} {aft2 : Array Edge} (hs : T.sliceOf t = some 1) (ht : T.plain t2 = true)
    (hx : e.ev x = some (.slice A l.length c)) (hy : e.ev y = some (.int kk j)) (hd1 : Nat.blt d1 n = true) (hd2 : Nat.blt d2 n = true)
    (h : ∀ p, RL P ops Q rest n ((d2, .int .u8 (l[k]).toNat) :: (d1, .pointer (some p)) :: e) D m) :
    RL P ops Q (⟨some d1, .indexAddr t x y, ty, pos, aft, none⟩ :: ⟨some d2, .load t2 (.tmp d1), ty2, pos2, aft2, none⟩ :: rest) n e D m := by
  refine RL.index hT hB hj hlt hs rfl hx hy (fun ad _ _ hcell => ⟨(d1, .pointer (some (ad.add (k * 1)))) :: e, by simp [putE, hd1], ?_⟩)
  have hx := hcell 0 (.int .u8 (l[k]).toNat) (by simpa using u8s_get l k hlt)
  rw [add_add] at hx
  exact RL.load hT (p := ad.add (k * 1)) rfl (by simp [Env.ev, Env.get]) ht hx (e' := (d2, .int .u8 (l[k]).toNat) :: (d1, .pointer (some (ad.add (k * 1)))) :: e) (by simp [putE, hd2]) (h _)
theorem RL.bytesString (hT : T.Ok P) {l : List UInt8} (hS : Bs m M v l) (hk : (T.row tx).map (·.k) = some .str) {te : TypeId} (hk2 : (T.row t).map (·.k) = some (.sli te)) (hk3 : (T.row te).map (·.k) = some (.int .u8))
    (hg : gd ops e ⟨d, .convert t tx x, ty, pos, aft, g⟩ = some true) (hx : e.ev x = some v) (hp : putE n d (.string (str l)) e = some e') (h : RL P ops Q rest n e' D m) : RL P ops Q (⟨d, .convert t tx x, ty, pos, aft, g⟩ :: rest) n e D m := by
  obtain ⟨r1, hr1, hr1'⟩ := Option.map_eq_some_iff.1 hk
  obtain ⟨r2, hr2, hr2'⟩ := Option.map_eq_some_iff.1 hk2
  obtain ⟨r3, hr3, hr3'⟩ := Option.map_eq_some_iff.1 hk3
  have h1 := (hT.row hr1).k; rw [hr1'] at h1
  have h2 := (hT.row hr2).k; rw [hr2'] at h2
  have h3 := (hT.row hr3).k; rw [hr3'] at h3
  obtain ⟨A, c, rfl, hlc, _⟩ := hS.shape
  refine RL.value _ hg (fun a w hf hs => ?_) hp h
  have key : (Conv.bytesToString (.slice A l.length c)).run P w = .ok (.string (str l)) w := by
    cases A with
    | none =>
      have : l = [] := by
        rcases Nat.eq_zero_or_pos l.length with h0 | h0
        · exact List.eq_nil_of_length_eq_zero h0
        · obtain ⟨ad, had, _⟩ := Sl.addr hS h0; cases had
      subst this
      simp [Conv.bytesToString]; rfl
    | some ad =>
      have hload : (loadCells ad l.length).run P w = .ok ((l.map fun b => ((b.toNat : Nat) : Int)).map (Value.int .u8)).toArray w := by
        have h4 := run_loadCells_list (P := P) w ad (u8s l) (fun j u hu => by
          have h0 : j < l.length := by have := (List.getElem?_eq_some_iff.1 hu).1; simpa [u8s] using this
          obtain ⟨ad', had, _, hc⟩ := Sl.addr hS (by omega)
          injection had with had
          subst had
          exact (hs.cell _).trans (hc j u hu))
        rw [u8s_length] at h4
        rw [h4]
        simp [u8s]
      have h5 := run_bytesToString w ad l.length c _ hload
      rw [push_bytes] at h5
      rw [h5]
      congr 2
      show (ByteArray.mk _) = _
      unfold str
      congr 1
      apply Array.ext'
      simp
  simp [execOp, convert, hf.ev hx, run_underlying h1, run_underlying h2, run_underlying h3, key]
theorem RL.buildSlice0 (hT : T.Ok P) {s : Nat} (hs : T.sliceOf t = some s) (hg : gd ops e ⟨d, .buildSlice t 0 #[], ty, pos, aft, g⟩ = some true)
    (h : ∀ b m', b = m.heap.size → Ext m [] m' → ∃ e', putE n d (.slice (some ⟨b, 0, none⟩) 0 0) e = some e' ∧ RL P ops Q rest n e' D m') :
    RL P ops Q (⟨d, .buildSlice t 0 #[], ty, pos, aft, g⟩ :: rest) n e D m := by
  obtain ⟨te, hu, hsz⟩ := sizeOf_run hT hs m
  obtain ⟨e', hp, hk⟩ := h m.heap.size _ rfl ((Chg.alloc m (.cells #[] te)).new (Nat.le_refl _))
  refine RL.valueW _ _ hg (fun a w hf hw => ⟨_, ?_, hw.alloc _⟩) hp hk
  obtain ⟨te', hu', hsz'⟩ := sizeOf_run hT hs w
  rw [hu] at hu'
  injection hu' with hu'
  injection hu' with hu'
  subst hu'
  simp [execOp, Instr.buildSlice, run_underlying hu, hsz', Instr.fill, newRow, hw.size]
  congr 2
  apply Array.ext'
  simp
end
end Go.Ev
end
section
namespace Go.Ev
open Go.RowKit Go.WideShapes Go.ChangeShapes
section
variable {H : Type} {enc : TypeId × Value → H} {P : Program}
theorem readsOk_spec {ts : List TypeId} (h : ts.all (fun t => P.readableRec t && decide (t < P.types.size)) = true) {t : TypeId} (ht : t ∈ ts) : P.readableRec t = true ∧ t < P.types.size := by
  have := List.all_eq_true.1 h t ht
  simpa using this
theorem trodAll_carry (hl : laidOutB P = true) {W W' : World} (hb : Below W.heap.size W W') {sp : Nat → Bool} : ∀ {ts : List TypeId} {vs : List Value} {ds : List (DataW H)} {ps : List MemPlace},
    ts.all (fun t => P.readableRec t && decide (t < P.types.size)) = true → DataW.TrodAll enc P W 0 (fun _ => true) true ts vs ds ps → (∀ x ∈ ps, x.block < W.heap.size) → (∀ x ∈ ps, sp x.block = true) →
    DataW.TrodAll enc P W' 0 sp true ts vs ds ps
  | [], [], [], _, _, h, _, _ => h
  | t :: ts, v :: vs, d :: ds, _, hts, ⟨p, q, h1, h2, rfl⟩, hlt, hsp => by
    obtain ⟨hr, hrow⟩ := readsOk_spec hts (zS ..)
    refine ⟨p, q, ?_, trodAll_carry hl hb (List.all_eq_true.2 fun u hu => List.all_eq_true.1 hts u (zO _ hu)) h2 (fun x hx => hlt x (List.mem_append_right _ hx)) (fun x hx => hsp x (List.mem_append_right _ hx)), rfl⟩
    exact WideElems.Trod_stays hl hr hrow h1 (fun x hx => hb.same (hlt x (List.mem_append_left _ hx))) (fun x hx => hsp x (List.mem_append_left _ hx))
theorem post_of_below' {f : Func} {s : ChangeSpec} {apart fresh handsOn again : Bool} {W W' : World} {args : Array Value} {v : Value} {ds gs : List (DataW H)} {before pa pv : List MemPlace}
    (hW : DataW.Whole enc P f.params.toList s.vars apart W args.toList ds gs before)
    (hres : ∀ (b : Nat) (sp : Nat → Bool) (hd : Bool), DataW.TrodAll enc P W' b sp hd f.resultTypes.toList (v.resultList f.resultTypes.size) (s.fn H (ds ++ gs)).results [])
    (hargs : ∀ sp : Nat → Bool, (∀ p ∈ before, sp p.block = true) → DataW.TrodAll enc P W' 0 sp true f.params.toList args.toList (s.fn H (ds ++ gs)).args pa)
    (hvars : ∀ sp : Nat → Bool, (∀ p ∈ before, sp p.block = true) → DataW.TrodVars enc P W' sp s.vars (s.fn H (ds ++ gs)).vars pv)
    (hps : before = pa ++ pv) (hb : Below W.heap.size W W')
    (hok : ∀ (j : Nat) (t : TypeId) (r : Value), f.resultTypes[j]? = some t → (v.resultList f.resultTypes.size)[j]? = some r → Value.okWide P W' .any 0 t r) :
    s.post enc P f apart fresh handsOn again W args v W' := by
  have hlt : ∀ p ∈ before, p.block < W.heap.size := fun p hp => hW.lt p hp
  have hold : ∀ p ∈ before, (fun b => decide (b < W.heap.size)) p.block = true := fun p hp => by simpa using hlt p hp
  refine ⟨ds, gs, before, [], pa, pv, hW, hres _ _ _, hargs _ hold, hvars _ hold, World.keptBut_mono (fun p hp => ⟨hp, ?_⟩) (hb.frame (· ∈ before)), fun _ => ?_⟩
  · rw [hps, List.mem_append] at hp
    exact Or.inr hp
  · obtain ⟨_, _, _, _, _, hz, hn⟩ := hW
    refine ⟨hok, _, _, ([] ++ pa) ++ pv, ⟨[] ++ pa, pv, trodAll_append (hargs _ (fun _ _ => rfl)) (hres _ _ _), hvars _ (fun _ _ => rfl), rfl, ?_, ?_⟩, ?_⟩
    · intro b off hp
      have hin : MemPlace.cell b off ∈ before := by rw [hps]; simpa using hp
      rw [hb.frozen (hlt _ hin)]
      exact hz b off hin
    · intro ha
      have := hn ha
      rw [hps] at this
      simpa using this
    · intro p hp _
      rw [hps]
      simpa using hp
theorem trodAll_len {W : World} {base : Nat} {sp : Nat → Bool} {hd : Bool} : ∀ {ts : List TypeId} {vs : List Value} {ds : List (DataW H)} {ps : List MemPlace}, DataW.TrodAll enc P W base sp hd ts vs ds ps → ds.length = ts.length
  | [], [], [], _, _ => rfl
  | t :: ts, v :: vs, d :: ds, _, ⟨_, _, _, h2, _⟩ => by rw [List.length_cons, List.length_cons, trodAll_len h2]
def Fit (P : Program) (t : TypeId) (d : DataW H) : Prop := ∀ k ∈ d.weights P t, k ≤ reachBytes
theorem weightsAll_mem {e : TypeId} {k : Nat} : ∀ {ds : List (DataW H)} {d : DataW H}, d ∈ ds → k ∈ d.weights P e → k ∈ DataW.weightsAll P e ds
  | d' :: r, d, h, hk => by
    unfold DataW.weightsAll
    rcases List.mem_cons.1 h with rfl | h
    · exact List.mem_append_left _ hk
    · exact List.mem_append_right _ (weightsAll_mem h hk)
theorem weightsEach_mem {k : Nat} {t : TypeId} : ∀ {i : Nat} {ts : List TypeId} {ds : List (DataW H)} {d : DataW H}, ts[i]? = some t → ds[i]? = some d → k ∈ d.weights P t → k ∈ DataW.weightsEach P ts ds
  | 0, t' :: ts, d' :: ds, d, h1, h2, hk => by
    unfold DataW.weightsEach
    simp only [List.getElem?_cons_zero, Option.some.injEq] at h1 h2
    subst h1; subst h2
    exact List.mem_append_left _ hk
  | i + 1, t' :: ts, d' :: ds, d, h1, h2, hk => by
    unfold DataW.weightsEach
    exact List.mem_append_right _ (weightsEach_mem (by simpa using h1) (by simpa using h2) hk)
  | _, [], _, _, h1, _, _ => by simp at h1
  | _, _ :: _, [], _, _, h2, _ => by simp at h2
theorem Fit.arg {ts : List TypeId} {ds : List (DataW H)} (h : (DataW.weightsEach P ts ds).all (· ≤ reachBytes) = true) (i : Nat) {t : TypeId} {d : DataW H} (ht : ts[i]? = some t) (hd : ds[i]? = some d) : Fit P t d :=
  fun k hk => by have := List.all_eq_true.1 h k (weightsEach_mem ht hd hk); simpa using this
theorem Fit.elem {t e : TypeId} {el rest : List (DataW H)} (ht : P.underlying t = some (.slice e)) (h : Fit P t (.slice el rest)) {d : DataW H} (hd : d ∈ el) : Fit P e d :=
  fun k hk => h k (by unfold DataW.weights; rw [ht]; exact zO _ (List.mem_append_left _ (weightsAll_mem hd hk)))
theorem open_sl {α : Type} {W : World} {sp : Nat → Bool} {hd : Bool} {base fuel sz : Nat} {t e : TypeId} {cs : List Value} {x : DataW H × List MemPlace} (enc' : α → List Value) (Good : α → Prop)
    (ht : P.underlying t = some (.slice e)) (hC : P.cellsOf e = sz) (hfit : Fit P t x.1) (hel : ∀ (cs : List Value) (n : Nat) (y : DataW H × List MemPlace), cs.length = sz → DataW.trod enc P W base sp hd n e cs = some y → Fit P e y.1 → ∃ a, cs = enc' a ∧ Good a)
    (h : DataW.trod enc P W base sp hd fuel t cs = some x) : ∃ (v : Value) (l : List α), cs = [v] ∧ Sl W [] sz v (l.flatMap enc') ∧ ∀ a ∈ l, Good a := by
  rcases DataW.trod_slice ht h with ⟨rfl, _⟩ | ⟨a, len, cap, elems, rest, n, _, rfl, rfl, _, hl, hm, hlen, hi, _⟩
  · exact ⟨_, [], rfl, Sl.nil _ _ _, by simp⟩
  · refine ⟨.slice (some a) len cap, ?_⟩
    have key : ∀ k, k ≤ len → ∃ l : List α, (l.flatMap enc').length = k * sz ∧ (∀ j u, (l.flatMap enc')[j]? = some u → W.cell? (a.add j) = some u) ∧ ∀ b ∈ l, Good b := by
      intro k
      induction k with
      | zero => intro _; exact ⟨[], by simp, by simp, by simp⟩
      | succ k ih =>
        intro hk
        obtain ⟨l, h1, h2, h3⟩ := ih (by omega)
        have hik := hi k (by omega)
        rw [hC, List.getElem?_eq_getElem (by omega)] at hik
        obtain ⟨cs', hc1, hc2⟩ := Option.bind_eq_some_iff.1 hik
        obtain ⟨_, hcl, hat⟩ := World.cells?_some hc1
        obtain ⟨b, rfl, hb⟩ := hel cs' n _ hcl hc2 (Fit.elem ht hfit (List.mem_map.2 ⟨elems[k]'(by omega), List.getElem_mem _, rfl⟩))
        refine ⟨l ++ [b], ?_, ?_, ?_⟩
        · simp [h1, hcl, Nat.add_mul]
        · intro j u hu
          simp only [List.flatMap_append, List.flatMap_cons, List.flatMap_nil, List.append_nil] at hu
          by_cases hj : j < k * sz
          · rw [List.getElem?_append_left (by omega)] at hu
            exact h2 j u hu
          · rw [List.getElem?_append_right (by omega), h1] at hu
            have hjs : j - k * sz < sz := by have h9 := (List.getElem?_eq_some_iff.1 hu).1; omega
            have := hat (j - k * sz) hjs
            rw [add_add, show k * sz + (j - k * sz) = j by omega] at this
            exact this.trans hu
        · intro c hc
          rcases List.mem_append.1 hc with hc | hc
          · exact h3 c hc
          · have : c = b := by simpa using hc
            subst this; exact hb
    obtain ⟨l, h1, h2, h3⟩ := key len (Nat.le_refl _)
    exact ⟨l, rfl, ⟨some a, len, cap, rfl, hl, hm, h1, (fun hh => by cases hh), fun _ => ⟨a, rfl, by simp, h2⟩⟩, h3⟩
theorem open_stru {W : World} {sp : Nat → Bool} {hd : Bool} {base fuel : Nat} {t : TypeId} {cs : List Value} {x : DataW H × List MemPlace} {fs : List (TypeId × Nat × Nat)} (hk : KOk P t (.stru fs)) (h : DataW.trod enc P W base sp hd fuel t cs = some x) :
    ∃ n ds, x.1 = .agg ds ∧ cs.length = P.cellsOf t ∧ ∀ (i ty off sz : Nat), fs[i]? = some (ty, off, sz) → ∃ y, DataW.trod enc P W base sp hd n ty ((cs.drop off).take sz) = some y ∧ ds[i]? = some y.1 := by
  obtain ⟨F, hF, rfl⟩ := hk
  obtain ⟨xs, n, _, rfl, hl, hxl, hall⟩ := DataW.trod_struct hF h
  refine ⟨n, _, rfl, hl, fun i ty off sz hi => ?_⟩
  rw [List.getElem?_map] at hi
  cases hf : F.toList[i]? with
  | none => rw [hf] at hi; cases hi
  | some f =>
    rw [hf] at hi
    simp only [Option.map_some, Option.some.injEq, Prod.mk.injEq] at hi
    obtain ⟨rfl, rfl, rfl⟩ := hi
    have hf' : F[i]? = some f := by simpa using hf
    have hlt : i < F.size := (Array.getElem?_eq_some_iff.1 hf').1
    have := hall i f hf'
    rw [List.getElem?_eq_getElem (by omega)] at this
    exact ⟨_, this, by rw [List.getElem?_map, List.getElem?_eq_getElem (by omega)]; rfl⟩
theorem int_wf {k : IntKind} {z lo hi : Int} (hw : (Lit.int k z).wf = true) (h1 : k.min = lo) (h2 : k.max = hi) : lo ≤ z ∧ z ≤ hi := by
  subst h1; subst h2
  simpa [Lit.wf] using hw
theorem cells_toList_one {v u : Value} (h : v.cells.toList = [u]) (hv : ∃ A n c, v = .slice A n c) : v = u := by
  obtain ⟨A, n, c, rfl⟩ := hv
  simpa [Value.cells] using h
theorem flatMap_one {α : Type} (f : α → Value) : ∀ l : List α, l.flatMap (fun a => [f a]) = l.map f
  | [] => rfl
  | a :: l => by rw [List.flatMap_cons, flatMap_one f l]; rfl
theorem open_bytes {W : World} {b0 : Nat} {r : Reach} {t e : TypeId} {v : Value} {d : DataW H} {ps : List MemPlace} (ht : P.underlying t = some (.slice e)) (he : P.underlying e = some (.int .u8)) (hC : P.cellsOf e = 1)
    (hok : Value.okWide P W r b0 t v) (hfit : Fit P t d) (h : DataW.Trod enc P W 0 (fun _ => true) true t v d ps) : ∃ l, Bs W [] v l := by
  obtain ⟨fuel, h⟩ := h
  obtain ⟨u, l, hcs, hS, _⟩ := open_sl (α := UInt8) (fun b => [Value.int .u8 b.toNat]) (fun _ => True) ht hC hfit (fun cs n y _ hy _ => by
    obtain ⟨z, rfl, _, hw⟩ := DataW.trod_int he hy
    have hz : 0 ≤ z ∧ z < 256 := by
      have h1 : IntKind.u8.min = 0 := by decide
      have h2 : IntKind.u8.max = 255 := by decide
      simp only [Lit.wf, h1, h2, Bool.and_eq_true, decide_eq_true_eq] at hw
      omega
    refine ⟨UInt8.ofNat z.toNat, ?_, trivial⟩
    have : (UInt8.ofNat z.toNat).toNat = z.toNat := by rw [UInt8.toNat_ofNat', Nat.mod_eq_of_lt (by omega)]
    rw [this, Int.toNat_of_nonneg hz.1]) h
  have := cells_toList_one hcs (okWide_slice ht hok)
  subst this
  rw [flatMap_one] at hS
  exact ⟨l, hS⟩
end
end Go.Ev
end
section
namespace Go.Proofs.YtgpgladbdoimdaaGreatDoor
open Go.ChangeShapes Go.WideShapes Go.ChangeAt Go.RowKit Go.Ev
theorem own : ownKnob Tryz.prog.godebug = none := by kernel_rfl
theorem laidOut : laidOutB Tryz.prog = true := by kernel_rfl
theorem und (t : TypeId) {k : TyK} {r : Row} (hr : T.row t = some r) (hk : r.k = k) : KOk Tryz.prog t k := hk ▸ (T_ok.row hr).k
theorem cellsOf (t : TypeId) {r : Row} (hr : T.row t = some r) {k : Nat} (hk : r.size = k) : Tryz.prog.cellsOf t = k := hk ▸ (T_ok.row hr).cells
end Go.Proofs.YtgpgladbdoimdaaGreatDoor
end
section
namespace Go.Ev
open Go.RowKit
theorem Blk.up {m m' : World} {b : Nat} {t : TypeId} {cs : List Value} (h : Blk m b t cs) (hE : Ext m [] m') : Blk m' b t cs := h.ext hE (by simp)
theorem wrap_u8 (x : Int) : IntKind.u8.wrap x = x % 256 := by simp [IntKind.wrap, IntKind.signed, IntKind.bits]
theorem wrap_u64 (x : Int) : IntKind.u64.wrap x = x % 18446744073709551616 := by simp [IntKind.wrap, IntKind.signed, IntKind.bits]
theorem wrap_i64 (x : Int) : IntKind.i64.wrap x = if x % 18446744073709551616 ≥ 9223372036854775808 then x % 18446744073709551616 - 18446744073709551616 else x % 18446744073709551616 := by
  simp [IntKind.wrap, IntKind.signed, IntKind.bits]
theorem wrap_i64_in (x : Int) (h1 : -9223372036854775808 ≤ x) (h2 : x ≤ 9223372036854775807) : IntKind.i64.wrap x = x := by
  rw [wrap_i64]; split <;> omega
theorem wrap_u64_in (x : Int) (h1 : 0 ≤ x) (h2 : x < 18446744073709551616) : IntKind.u64.wrap x = x := by rw [wrap_u64]; omega
theorem wrap_u8_nat (n : Nat) : IntKind.u8.wrap (n : Int) = ((UInt8.ofNat n).toNat : Int) := by rw [wrap_u8]; simp
theorem fdiv_pow (a : Nat) (k : Nat) : ((a : Int)).fdiv (2 ^ k) = ((a / 2 ^ k : Nat) : Int) := by
  have h : (2 : Int) ^ k = ((2 ^ k : Nat) : Int) := by simp
  rw [h, Int.fdiv_eq_ediv_of_nonneg _ (Int.natCast_nonneg _)]
  rfl
def bop8 (op : BinOp) (a b : BitVec 8) : BitVec 8 := match op with
  | .and => a &&& b
  | .or => a ||| b
  | .xor => a ^^^ b
  | _ => a &&& ~~~ b
theorem wrap_bv8 (z : BitVec 8) : IntKind.u8.wrap (z.toNat : Int) = (z.toNat : Int) := by
  rw [wrap_u8]; have := z.isLt; omega
theorem bits_u8 (op : BinOp) (a b : Nat) : bits op .u8 (a : Int) (b : Int) = ((bop8 op (BitVec.ofNat 8 a) (BitVec.ofNat 8 b)).toNat : Int) := by
  have h : ∀ x : Nat, BitVec.ofInt IntKind.u8.bits (x : Int) = BitVec.ofNat 8 x := fun x => BitVec.ofInt_natCast ..
  unfold bits
  rw [h a, h b]
  cases op <;> exact wrap_bv8 _
theorem or128_fin : ∀ x : Fin 256, (BitVec.ofNat 8 x.val ||| BitVec.ofNat 8 128).toNat = x.val % 128 + 128 := by decide +kernel
theorem and127_fin : ∀ x : Fin 256, (BitVec.ofNat 8 x.val &&& BitVec.ofNat 8 127).toNat = x.val % 128 := by decide +kernel
theorem or128 (n : Nat) : bits .or .u8 ((UInt8.ofNat n).toNat : Int) 128 = ((UInt8.ofNat (n % 128 + 128)).toNat : Int) := by
  have h := bits_u8 .or (UInt8.ofNat n).toNat 128
  have h1 := or128_fin ⟨(UInt8.ofNat n).toNat, UInt8.toNat_lt _⟩
  refine h.trans ?_
  show ((BitVec.ofNat 8 (UInt8.ofNat n).toNat ||| BitVec.ofNat 8 128).toNat : Int) = _
  rw [h1]
  simp only [UInt8.toNat_ofNat']
  omega
theorem wrap_bv64 (z : BitVec 64) : IntKind.u64.wrap (z.toNat : Int) = (z.toNat : Int) := by
  rw [wrap_u64]; have := z.isLt; omega
def bop64 (op : BinOp) (a b : BitVec 64) : BitVec 64 := match op with
  | .and => a &&& b
  | .or => a ||| b
  | .xor => a ^^^ b
  | _ => a &&& ~~~ b
theorem bits_u64 (op : BinOp) (a b : Nat) : bits op .u64 (a : Int) (b : Int) = ((bop64 op (BitVec.ofNat 64 a) (BitVec.ofNat 64 b)).toNat : Int) := by
  have h : ∀ x : Nat, BitVec.ofInt IntKind.u64.bits (x : Int) = BitVec.ofNat 64 x := fun x => BitVec.ofInt_natCast ..
  unfold bits
  rw [h a, h b]
  cases op <;> exact wrap_bv64 _
def encU (n : Nat) : List UInt8 := if n < 128 then [UInt8.ofNat n] else UInt8.ofNat (n % 128 + 128) :: encU (n / 128)
termination_by n
decreasing_by omega
theorem encU_small {n : Nat} (h : n < 128) : encU n = [UInt8.ofNat n] := by rw [encU, if_pos h]
theorem encU_big {n : Nat} (h : 128 ≤ n) : encU n = UInt8.ofNat (n % 128 + 128) :: encU (n / 128) := by rw [encU, if_neg (by omega)]
theorem encU_len (k : Nat) : ∀ n : Nat, n < 128 ^ (k + 1) → (encU n).length ≤ k + 1 := by
  induction k with
  | zero => intro n h; rw [encU_small (by simpa using h)]; simp
  | succ k ih =>
    intro n h
    rcases Nat.lt_or_ge n 128 with h1 | h1
    · rw [encU_small h1]; simp
    · rw [encU_big h1]
      have : n / 128 < 128 ^ (k + 1) := by
        rw [Nat.div_lt_iff_lt_mul (by omega)]
        rw [Nat.pow_succ] at h
        exact h
      have := ih _ this
      simp; omega
theorem encU_len10 {n : Nat} (h : n < 18446744073709551616) : (encU n).length ≤ 10 := encU_len 9 n (by omega)
def rdU (most : Nat) : Nat → Nat → List UInt8 → Except Int (Nat × List UInt8)
  | _, _, [] => .error 10
  | i, n, b :: r => if i = 9 ∧ 1 < b.toNat then .error 11
    else if 128 ≤ b.toNat then rdU most (i + 1) (n + b.toNat % 128 * 128 ^ i) r
    else if b.toNat = 0 ∧ 0 < i then .error 11
    else if most < n + b.toNat % 128 * 128 ^ i then .error 12
    else .ok (n + b.toNat % 128 * 128 ^ i, r)
theorem or_add64 (n y k : Nat) (hn : n < 2 ^ k) (h : n + y * 2 ^ k < 18446744073709551616) : bits .or .u64 (n : Int) ((y * 2 ^ k : Nat) : Int) = ((n + y * 2 ^ k : Nat) : Int) := by
  have h1 := bits_u64 .or n (y * 2 ^ k)
  refine h1.trans ?_
  show ((BitVec.ofNat 64 n ||| BitVec.ofNat 64 (y * 2 ^ k)).toNat : Int) = _
  rw [BitVec.toNat_or, BitVec.toNat_ofNat, BitVec.toNat_ofNat, Nat.mod_eq_of_lt (by omega), Nat.mod_eq_of_lt (by omega), Nat.or_comm, Nat.mul_comm y, ← Nat.two_pow_add_eq_or_of_lt hn, Nat.add_comm]
theorem and127 (x : UInt8) : bits .and .u8 (x.toNat : Int) 127 = ((x.toNat % 128 : Nat) : Int) := by
  have h := bits_u8 .and x.toNat 127
  refine h.trans ?_
  show ((BitVec.ofNat 8 x.toNat &&& BitVec.ofNat 8 127).toNat : Int) = _
  have h1 := and127_fin ⟨x.toNat, x.toNat_lt⟩
  rw [h1]
theorem rdU_err (most : Nat) : ∀ (l : List UInt8) (i n : Nat) (k : Int), rdU most i n l = .error k → k = 10 ∨ k = 11 ∨ k = 12
  | [], i, n, k, h => by simp [rdU] at h; omega
  | b :: l, i, n, k, h => by
    unfold rdU at h
    split at h
    · injection h with h; omega
    · split at h
      · exact rdU_err most l _ _ k h
      · split at h
        · injection h with h; omega
        · split at h
          · injection h with h; omega
          · cases h
def gR {α : Type} (z : α) (e : Int) (l : List UInt8) (r : Except Int (α × List UInt8)) : α × List UInt8 × Int :=
  if e = 0 then match r with
    | .ok (a, l') => (a, l', 0)
    | .error k => (z, l, k)
  else (z, l, e)
theorem gR_off {α : Type} {z : α} {e : Int} {l : List UInt8} {r : Except Int (α × List UInt8)} (h : e ≠ 0) : gR z e l r = (z, l, e) := by unfold gR; rw [if_neg h]
theorem gR_ok {α : Type} {z a : α} {l l' : List UInt8} {r : Except Int (α × List UInt8)} (h : r = .ok (a, l')) : gR z 0 l r = (a, l', 0) := by unfold gR; rw [if_pos rfl, h]
theorem gR_err {α : Type} {z : α} {k : Int} {l : List UInt8} {r : Except Int (α × List UInt8)} (h : r = .error k) : gR z 0 l r = (z, l, k) := by unfold gR; rw [if_pos rfl, h]
def rdByte : List UInt8 → Except Int (UInt8 × List UInt8)
  | [] => .error 10
  | b :: l => .ok (b, l)
def rdText (most : Nat) (l : List UInt8) : Except Int (List UInt8 × List UInt8) := match rdU most 0 0 l with
  | .error k => .error k
  | .ok (n, l') => if n ≤ l'.length then .ok (l'.take n, l'.drop n) else .error 10
end Go.Ev
end
section
namespace Go.Ev
open Go.RowKit
def New (m : World) (S' : List Nat) (m' : World) : Prop := Ext m [] m' ∧ FpNew m [] S'
theorem New.ge {m m' : World} {S' : List Nat} (h : New m S' m') : ∀ k ∈ S', m.heap.size ≤ k := fun k hk => by
  rcases h.2 k hk with h1 | h1
  · cases h1
  · exact h1
section
variable {P : Program} {T : Ty} {ops : Array Oper} {Q : Exit → Act → World → Prop} {rest : List Oper} {n : Nat} {e e' : Env} {D : Fr} {m w : World}
  {d : Option Tmp} {x y : Operand} {t te ti ty : TypeId} {pos : String} {aft : Array Edge} {g : Option (Nat × Bool)} {rt r : Row}
theorem appendMake_run (hT : T.Ok P) (hrt : T.row t = some rt) (hk : rt.k = .sli te) (hr : T.row te = some r) (hcz : r.zero.cells.size = r.size) (hsz : 0 < r.size) (hti : P.underlying ti = some (.int .i64))
    {k : Nat} (hk0 : 0 < k) (hmax : k ≤ maxLen) (hbytes : k * r.bytes ≤ 140737488355328) (hs : Sim m w) (ty : TypeId) :
    ∃ cap cur w', (Builtin.append_ #[t, ti] ty #[.slice none 0 0, .int .i64 k]).run P w = .ok (.slice (some ⟨m.heap.size, 0, none⟩) k cap) w' ∧ Blk w' m.heap.size te cur ∧ k ≤ cap ∧ cap ≤ maxLen ∧ cur.length = cap * r.size ∧ Ext m [] (low m w') := by
  have hu := (hT.row hrt).k
  rw [hk] at hu
  obtain ⟨i, hi, hz0, hz1, hz2⟩ := (hT.row hr).parts
  have hmx : k ≤ 9223372036854775807 := by unfold maxLen at hmax; omega
  have hwr : IntKind.i64.wrap (k : Int) = k := wrap_i64_in _ (by omega) (by omega)
  have h63 : ¬ ((9223372036854775807 : Int) < (k : Int)) := by omega
  have hmk : max (k : Int) 0 = k := by omega
  have hneg : ¬ ((k : Int) < 0) := by omega
  have h48 : ¬ (281474976710656 < Builtin.nextslicecap k 0 * i.bytes) := by
    rw [hz2]
    have := growslice_fits (old := 0) (need := k) (by omega) hbytes
    omega
  have hge := grownCap_ge w k 0 te
  have hcm := grownCap_le_maxLen w k 0 te hmax
  have hb48 : ¬ ((281474976710656 : Int) < (k : Int) * (i.bytes : Int)) := by
    rw [hz2]
    have : (k : Int) * (r.bytes : Int) ≤ 140737488355328 := by rw [← Int.natCast_mul]; omega
    omega
  have hns : ¬ (k * r.size = 0) := Nat.ne_of_gt (Nat.mul_pos hk0 hsz)
  have hb : Blk (w.drew.alloc (.cells ((Builtin.zeroCells r.zero.cells k).toList ++ (Builtin.zeroCells r.zero.cells (grownCap w k 0 te - k)).toList).toArray te)) w.heap.size te ((Builtin.zeroCells r.zero.cells k).toList ++ (Builtin.zeroCells r.zero.cells (grownCap w k 0 te - k)).toList) := heap_alloc_new w.drew _
  refine ⟨grownCap w k 0 te, _, w.drew.alloc (.cells ((Builtin.zeroCells r.zero.cells k).toList ++ (Builtin.zeroCells r.zero.cells (grownCap w k 0 te - k)).toList).toArray te), ?_, by rw [← hs.size]; exact hb, hge, hcm, ?_, ?_⟩
  · have hk0' : ¬ (k = 0) := by omega
    simp [Builtin.append_, run_underlying hu, run_underlying hti, sizeOf, typeInfo, zeroValue, hi, hz0, hz1, asIntOf, hwr, hb48, asInt, h48, h63, hmk, hneg, newRow, Question.forced, grownCap, Builtin.firstCells, hk0', ← hs.size]
    rw [if_neg hns]
    congr 3
    apply Array.ext'; simp
  · simp only [List.length_append, size_zero, hcz, ← Nat.add_mul]; congr 1; omega
  · refine ⟨hs.os, hs.tape, hs.output, by rw [low_heap]; simp [hs.size], fun q hq _ => ?_, dle.low (Nat.le_succ_of_le hs.drawn)⟩
    show (w.drew.alloc _).heap[q]? = _
    rw [Below.heap_alloc w.drew _ q (by show q < w.heap.size; rw [hs.size]; exact hq)]
    show w.heap[q]? = _
    rw [hs.heap]
theorem RL.appendMake (hT : T.Ok P) (he : T.elem t = some (te, r)) (hti : (T.row ti).map (·.k) = some (.int .i64)) {k : Nat} {j : Int}
    (hg : gd ops e ⟨d, .call ⟨.builtin .append, #[x, y], #[t, ti]⟩, ty, pos, aft, g⟩ = some true) (hx : e.ev x = some (.slice none 0 0)) (hy : e.ev y = some (.int .i64 j)) (hj : j = (k : Int)) (hk0 : 0 < k) (hmax : k ≤ maxLen) (hbytes : k * r.bytes ≤ 140737488355328)
    (h : ∀ cap cur m', Blk m' m.heap.size te cur → k ≤ cap → cap ≤ maxLen → cur.length = cap * r.size → Ext m [] m' → ∃ e', putE n d (.slice (some ⟨m.heap.size, 0, none⟩) k cap) e = some e' ∧ RL P ops Q rest n e' D m') :
    RL P ops Q (⟨d, .call ⟨.builtin .append, #[x, y], #[t, ti]⟩, ty, pos, aft, g⟩ :: rest) n e D m := by
  subst hj
  obtain ⟨rt, hrt, hk, hr, hcz, hsz, _⟩ := Ty.elem_spec he
  obtain ⟨r1, hr1, hr1'⟩ := Option.map_eq_some_iff.1 hti
  have h1 := (hT.row hr1).k; rw [hr1'] at h1
  refine RL.valueX (R := fun v' m' => ∃ cap cur, v' = .slice (some ⟨m.heap.size, 0, none⟩) k cap ∧ Blk m' m.heap.size te cur ∧ k ≤ cap ∧ cap ≤ maxLen ∧ cur.length = cap * r.size ∧ Ext m [] m') hg (fun a w hf hs => ?_)
    (fun v' m' ⟨cap, cur, hv, h2, h3, h4, h5, h6⟩ => by subst hv; exact h cap cur m' h2 h3 h4 h5 h6)
  obtain ⟨cap, cur, w', h2, h3, h4, h5, h6, h7⟩ := appendMake_run hT hrt hk hr hcz hsz h1 hk0 hmax hbytes hs ty
  refine ⟨_, w', low m w', ?_, Sim.low m w', cap, cur, rfl, h3, h4, h5, h6, h7⟩
  simp [execOp, resolve, invoke, builtin, hf.ev hx, hf.ev hy, h2]
theorem Own.cut0 {b cap : Nat} {cur : List Value} {sz : Nat} (h : Blk m b te cur) (hcap : cap ≤ maxLen) (hl : cur.length = cap * sz) : Own m [b] te sz (.slice (some ⟨b, 0, none⟩) 0 cap) 0 [] :=
  ⟨by simp, .inr ⟨b, cap, cur, rfl, h, Nat.zero_le _, hcap, hl, by simp, rfl⟩⟩
end
theorem Own.putN {m : World} {S : List Nat} {t : TypeId} {sz : Nat} {v : Value} {n j : Nat} {xs : List Value} (h : Own m S t sz v n xs) (hj : j < n * sz) :
    ∃ g cap cur, v = .slice (some ⟨g, 0, none⟩) n cap ∧ Blk m g t cur ∧ S = [g] ∧ j < cur.length ∧ ∀ m' x, Chg m g (.cells (cur.set j x).toArray t (0, 0)) m' → Own m' S t sz v n (xs.set j x) := by
  have hn : 0 < n := by
    rcases Nat.eq_zero_or_pos n with h0 | h0
    · subst h0; simp at hj
    · exact h0
  obtain ⟨g, cap, cur, rfl, hB, hcap, hcm, hcl, hct, rfl⟩ := h.at_ hn
  have hjc : j < cur.length := by rw [hcl]; exact Nat.lt_of_lt_of_le hj (Nat.mul_le_mul_right _ hcap)
  refine ⟨g, cap, cur, rfl, hB, rfl, hjc, fun m' x hC => ⟨?_, .inr ⟨g, cap, _, rfl, hC.blk, hcap, hcm, by simpa using hcl, ?_, rfl⟩⟩⟩
  · rw [List.length_set]; exact h.1
  · rw [List.take_set, hct]
end Go.Ev
end
section
namespace Go.Ev
open Go.RowKit
structure Asn where
  own : List Nat
  P : World → List Nat → Prop
  lt : ∀ {m : World} {M : List Nat}, P m M → ∀ k ∈ own, k < m.heap.size
  keep : ∀ {m m' : World} {M M' N : List Nat}, P m M → Ext m N m' → (∀ k ∈ own, k ∉ N) → (∀ k ∈ N, k < m.heap.size → k ∈ M) → (∀ k ∈ M', k ∈ M ∨ m.heap.size ≤ k) → P m' M'
theorem Asn.less (A : Asn) {m : World} {M M' : List Nat} (h : A.P m M) (hM : ∀ k ∈ M', k ∈ M ∨ m.heap.size ≤ k) : A.P m M' := A.keep h (Ext.refl m []) (by simp) (by simp) hM
def ofps (H : List Asn) : List Nat := H.flatMap Asn.own
theorem ofps_cons (A : Asn) (H : List Asn) : ofps (A :: H) = A.own ++ ofps H := rfl
theorem ofps_append (H F : List Asn) : ofps (H ++ F) = ofps H ++ ofps F := by simp [ofps]
theorem mem_ofps {H : List Asn} {k : Nat} : k ∈ ofps H ↔ ∃ A ∈ H, k ∈ A.own := List.mem_flatMap
structure Aprt (m : World) (X : List Nat) (H : List Asn) : Prop where
  all : ∀ A ∈ H, A.P m (ofps H ++ X)
  nd : (ofps H).Nodup
  out : ∀ k ∈ ofps H, k ∉ X
structure Tr (m0 : World) (M0 X : List Nat) (m : World) (H : List Asn) : Prop where
  hold : Aprt m X H
  ext : Ext m0 M0 m
  fp : FpNew m0 M0 (ofps H)
  xlt : ∀ k ∈ X, k < m0.heap.size
  mx : ∀ k ∈ M0, k ∉ X
section
variable {m0 m m' : World} {M0 X : List Nat} {H H' F Pre : List Asn} {A B : Asn}
theorem Aprt.lt (h : Aprt m X H) : ∀ k ∈ ofps H, k < m.heap.size := fun k hk => by
  obtain ⟨A, hA, hk⟩ := mem_ofps.1 hk
  exact A.lt (h.all A hA) k hk
theorem Aprt.perm (h : Aprt m X H) (hp : H.Perm H') : Aprt m X H' := by
  have hf : (ofps H).Perm (ofps H') := hp.flatMap_right _
  exact ⟨fun A hA => A.less (h.all A (hp.mem_iff.2 hA)) (fun k hk => .inl (by rcases List.mem_append.1 hk with h1 | h1 <;> simp [h1, hf.mem_iff])), hf.nodup_iff.1 h.nd, fun k hk => h.out k (hf.mem_iff.2 hk)⟩
theorem Tr.perm (h : Tr m0 M0 X m H) (hp : H.Perm H') : Tr m0 M0 X m H' :=
  ⟨h.hold.perm hp, h.ext, fun k hk => h.fp k ((hp.flatMap_right _).mem_iff.2 hk), h.xlt, h.mx⟩
theorem Aprt.drop (h : Aprt m X (H ++ F)) : Aprt m X H := by
  have e := ofps_append H F
  exact ⟨fun A hA => A.less (h.all A (List.mem_append_left _ hA)) (fun k hk => .inl (by rw [e]; rcases List.mem_append.1 hk with h1 | h1 <;> simp [h1])),
    (List.nodup_append.1 (e ▸ h.nd)).1, fun k hk => h.out k (by rw [e]; exact List.mem_append_left _ hk)⟩
theorem Tr.drop (h : Tr m0 M0 X m (H ++ F)) : Tr m0 M0 X m H := ⟨h.hold.drop, h.ext, fun k hk => h.fp k (by rw [ofps_append]; exact List.mem_append_left _ hk), h.xlt, h.mx⟩
theorem Tr.tail (h : Tr m0 M0 X m (A :: H)) : Tr m0 M0 X m H := (h.perm (H' := H ++ [A]) (by simpa using (List.perm_append_comm (l₁ := [A]) (l₂ := H)))).drop
theorem Tr.start (h : Aprt m X H) (hx : ∀ k ∈ X, k < m.heap.size) : Tr m (ofps H) X m H := ⟨h, Ext.refl _ _, FpNew.refl _ _, hx, h.out⟩
theorem Tr.head (h : Tr m0 M0 X m (A :: H)) : A.P m (ofps (A :: H) ++ X) := h.hold.all A (zS ..)
theorem Tr.get (h : Tr m0 M0 X m H) (k : Nat) (hk : H[k]? = some A) : A.P m (ofps H ++ X) := h.hold.all A (List.mem_of_getElem? hk)
theorem Aprt.inner (h : Aprt m X (Pre ++ F)) : Aprt m (ofps F ++ X) Pre := by
  have e := ofps_append Pre F
  have hn := List.nodup_append.1 (e ▸ h.nd)
  refine ⟨fun A hA => A.less (h.all A (List.mem_append_left _ hA)) (fun k hk => .inl (by rw [e]; simpa [List.append_assoc] using hk)), hn.1, fun k hk hx => ?_⟩
  rcases List.mem_append.1 hx with h1 | h1
  · exact hn.2.2 k hk k h1 rfl
  · exact h.out k (by rw [e]; exact List.mem_append_left _ hk) h1
theorem Tr.inner (h : Tr m0 M0 X m (Pre ++ F)) : Tr m (ofps Pre) (ofps F ++ X) m Pre :=
  Tr.start h.hold.inner (fun k hk => by
    rcases List.mem_append.1 hk with h1 | h1
    · exact h.hold.lt k (by rw [ofps_append]; exact List.mem_append_right _ h1)
    · exact Nat.lt_of_lt_of_le (h.xlt k h1) h.ext.size)
theorem Tr.outer (h : Tr m0 M0 X m (Pre ++ F)) (h' : Tr m (ofps Pre) (ofps F ++ X) m' H') : Tr m0 M0 X m' (H' ++ F) := by
  have e := ofps_append Pre F
  have e' := ofps_append H' F
  have hn := List.nodup_append.1 (e ▸ h.hold.nd)
  refine ⟨⟨fun A hA => ?_, ?_, fun k hk hx => ?_⟩, h.ext.trans h'.ext (fun k hk => h.fp k (by rw [e]; exact List.mem_append_left _ hk)), ?_, h.xlt, h.mx⟩
  · rcases List.mem_append.1 hA with hA | hA
    · exact A.less (h'.hold.all A hA) (fun k hk => .inl (by rw [e'] at hk; simpa [List.append_assoc] using hk))
    · refine A.keep (h.hold.all A (List.mem_append_right _ hA)) h'.ext (fun k hk hq => hn.2.2 k hq k (mem_ofps.2 ⟨A, hA, hk⟩) rfl) (fun k hk _ => by rw [e]; simp [hk]) (fun k hk => ?_)
      rw [e', List.append_assoc] at hk
      rcases List.mem_append.1 hk with h1 | h1
      · rcases h'.fp k h1 with h2 | h2
        · exact .inl (by rw [e]; simp [h2])
        · exact .inr h2
      · exact .inl (by rw [e, List.append_assoc]; exact List.mem_append_right _ h1)
  · rw [e']
    exact List.nodup_append.2 ⟨h'.hold.nd, hn.2.1, fun a ha b hb hab => h'.hold.out a ha (List.mem_append_left _ (hab ▸ hb))⟩
  · rw [e'] at hk
    rcases List.mem_append.1 hk with h1 | h1
    · exact h'.hold.out k h1 (List.mem_append_right _ hx)
    · exact h.hold.out k (by rw [e]; exact List.mem_append_right _ h1) hx
  · intro k hk
    rw [e'] at hk
    rcases List.mem_append.1 hk with h1 | h1
    · rcases h'.fp k h1 with h2 | h2
      · exact h.fp k (by rw [e]; exact List.mem_append_left _ h2)
      · exact .inr (Nat.le_trans h.ext.size h2)
    · exact h.fp k (by rw [e]; exact List.mem_append_right _ h1)
theorem Tr.turn (h : Tr m0 M0 X m (A :: H)) (hP : A.P m (ofps (A :: H) ++ X) → B.P m (ofps (B :: H) ++ X)) (hsub : ∀ k ∈ B.own, k ∈ A.own) (hnd : B.own.Nodup) : Tr m0 M0 X m (B :: H) := by
  have hn := List.nodup_append.1 (ofps_cons A H ▸ h.hold.nd)
  refine ⟨⟨fun C hC => ?_, ?_, fun k hk => ?_⟩, h.ext, fun k hk => ?_, h.xlt, h.mx⟩
  · rcases List.mem_cons.1 hC with rfl | hC
    · exact hP h.head
    · refine C.less (h.hold.all C (zO _ hC)) (fun k hk => .inl ?_)
      simp only [ofps_cons, List.append_assoc, List.mem_append] at hk ⊢
      rcases hk with h1 | h1
      · exact .inl (hsub k h1)
      · exact .inr h1
  · rw [ofps_cons]
    exact List.nodup_append.2 ⟨hnd, hn.2.1, fun a ha b hb => hn.2.2 a (hsub a ha) b hb⟩
  · rw [ofps_cons] at hk
    rcases List.mem_append.1 hk with h1 | h1
    · exact h.hold.out k (by rw [ofps_cons]; exact List.mem_append_left _ (hsub k h1))
    · exact h.hold.out k (by rw [ofps_cons]; exact List.mem_append_right _ h1)
  · rw [ofps_cons] at hk
    rcases List.mem_append.1 hk with h1 | h1
    · exact h.fp k (by rw [ofps_cons]; exact List.mem_append_left _ (hsub k h1))
    · exact h.fp k (by rw [ofps_cons]; exact List.mem_append_right _ h1)
theorem Tr.more (h : Tr m0 M0 X m H) (hB : B.own = []) (hP : B.P m (ofps H ++ X)) : Tr m0 M0 X m (B :: H) := by
  have e : ofps (B :: H) = ofps H := by rw [ofps_cons, hB]; rfl
  exact ⟨⟨fun C hC => by rw [e]; rcases List.mem_cons.1 hC with rfl | hC; exact hP; exact h.hold.all C hC, e ▸ h.hold.nd, e ▸ h.hold.out⟩, h.ext, e ▸ h.fp, h.xlt, h.mx⟩
theorem Tr.new (h : Tr m0 M0 X m H) (hE : Ext m [] m') (hN : ∀ k ∈ B.own, m.heap.size ≤ k) (hnd : B.own.Nodup) (hP : B.P m' (ofps (B :: H) ++ X)) : Tr m0 M0 X m' (B :: H) := by
  have h' : Tr m (ofps []) (ofps H ++ X) m' [B] := by
    refine ⟨⟨fun C hC => ?_, by simpa [ofps] using hnd, fun k hk hx => ?_⟩, hE, fun k hk => .inr (hN k (by simpa [ofps] using hk)), fun k hk => ?_, fun k hk => by cases hk⟩
    · have : C = B := by simpa using hC
      subst this
      simpa [ofps] using hP
    · have h1 := hN k (by simpa [ofps] using hk)
      rcases List.mem_append.1 hx with h2 | h2
      · have := h.hold.lt k h2; omega
      · have := h.xlt k h2; have := h.ext.size; omega
    · rcases List.mem_append.1 hk with h2 | h2
      · exact h.hold.lt k h2
      · have := h.xlt k h2; have := h.ext.size; omega
  exact (show Tr m0 M0 X m ([] ++ H) from h).outer h'
theorem Tr.step (h : Tr m0 M0 X m (A :: H)) (hE : Ext m A.own m') (hN : FpNew m A.own B.own) (hnd : B.own.Nodup) (hout : ∀ k ∈ B.own, k ∈ ofps H ++ X → False) (hP : B.P m' (B.own ++ (ofps H ++ X))) : Tr m0 M0 X m' (B :: H) := by
  have e : ofps [A] = A.own := by simp [ofps]
  have h' : Tr m (ofps [A]) (ofps H ++ X) m' [B] := by
    have hi := Tr.inner (Pre := [A]) (F := H) h
    refine ⟨⟨fun C hC => ?_, by simpa [ofps] using hnd, fun k hk => by exact hout k (by simpa [ofps] using hk)⟩, e ▸ hE, fun k hk => by rw [e]; exact hN k (by simpa [ofps] using hk), hi.xlt, hi.mx⟩
    have : C = B := by simpa using hC
    subst this
    simpa [ofps] using hP
  exact Tr.outer (Pre := [A]) (F := H) h h'
theorem Tr.step_same (h : Tr m0 M0 X m (A :: H)) (hE : Ext m A.own m') (hown : B.own = A.own) (hP : B.P m' (ofps (A :: H) ++ X)) : Tr m0 M0 X m' (B :: H) := by
  have hn := List.nodup_append.1 (ofps_cons A H ▸ h.hold.nd)
  refine h.step hE (hown ▸ FpNew.refl _ _) (hown ▸ hn.1) (fun k hk hx => ?_) (by rw [hown, ← List.append_assoc]; exact hP)
  rw [hown] at hk
  rcases List.mem_append.1 hx with h1 | h1
  · exact hn.2.2 k hk k h1 rfl
  · exact h.hold.out k (by rw [ofps_cons]; exact List.mem_append_left _ hk) h1
end
def pickO {α : Type} : List Nat → List (Option α) → List α × List (Option α)
  | [], l => ([], l)
  | i :: is, l => match l[i]? with
    | some (some a) => let r := pickO is (l.set i none); (a :: r.1, r.2)
    | _ => pickO is l
def pick {α : Type} (is : List Nat) (l : List α) : List α × List α := let r := pickO is (l.map some); (r.1, r.2.filterMap id)
def DoS (P : Program) (f : FuncId) (args : List Value) (Pre : List Asn) (Post : Value → List Asn → Prop) : Prop :=
  ∀ (m : World) (X : List Nat), Tr m (ofps Pre) X m Pre → FnR P f args m fun v m' => ∃ H', Post v H' ∧ Tr m (ofps Pre) X m' H'
theorem DoS.at {P : Program} {f : FuncId} {args : List Value} {Pre F : List Asn} {Post : Value → List Asn → Prop} {m0 m : World} {M0 X : List Nat} (h : DoS P f args Pre Post) (hT : Tr m0 M0 X m (Pre ++ F)) :
    FnR P f args m fun v m' => ∃ H', Post v H' ∧ Tr m0 M0 X m' (H' ++ F) :=
  (h m _ hT.inner).mono fun _ _ ⟨H', h1, h2⟩ => ⟨H', h1, hT.outer h2⟩
def blkA (b : Nat) (t : TypeId) (cs : List Value) : Asn where
  own := [b]
  P := fun m _ => Blk m b t cs
  lt := fun h k hk => by have : k = b := by simpa using hk
                         subst this; exact h.lt
  keep := fun h hE hn _ _ => h.ext hE (hn b (by simp))
def roA (sz : Nat) (v : Value) (xs : List Value) : Asn where
  own := []
  P := fun m M => Sl m M sz v xs ∧ 0 < sz
  lt := fun _ k hk => by cases hk
  keep := fun h hE _ hN hM => ⟨(Sl.ext (h.1.less (M' := _) (fun k hk => .inl hk) h.2) (hE.mono (M' := _) hN) hM h.2), h.2⟩
def ownA (S : List Nat) (t : TypeId) (sz : Nat) (v : Value) (n : Nat) (xs : List Value) : Asn where
  own := S
  P := fun m _ => Own m S t sz v n xs
  lt := fun h k hk => h.lt k hk
  keep := fun h hE hn _ _ => h.ext hE hn
def pureA (p : Prop) : Asn where
  own := []
  P := fun _ _ => p
  lt := fun _ k hk => by cases hk
  keep := fun h _ _ _ _ => h
section
variable {m0 m m' : World} {M0 X : List Nat} {H : List Asn} {b sz n : Nat} {t : TypeId} {cs xs : List Value} {v : Value} {S : List Nat} {o : Obj}
theorem Tr.ro (h : Tr m0 M0 X m H) (k : Nat) (hk : H[k]? = some (roA sz v xs)) : Sl m (ofps H ++ X) sz v xs := (h.get k hk).1
theorem Own.nd (h : Own m S t sz v n xs) : S.Nodup := by
  rcases h.2 with ⟨_, _, _, rfl⟩ | ⟨g, _, _, _, _, _, _, _, _, rfl⟩ <;> simp
theorem Tr.alloc (h : Tr m0 M0 X m H) (hC : Chg m b (.cells cs.toArray t (0, 0)) m') (hb : b = m.heap.size) : Tr m0 M0 X m' (blkA b t cs :: H) :=
  h.new (hC.new (by omega)) (fun k hk => by have h1 : k = b := by simpa [blkA] using hk
                                            omega) (by simp [blkA]) hC.blk
theorem Tr.store {cs' : List Value} (h : Tr m0 M0 X m (blkA b t cs :: H)) (hC : Chg m b (.cells cs'.toArray t (0, 0)) m') : Tr m0 M0 X m' (blkA b t cs' :: H) :=
  h.step_same (A := blkA b t cs) (by simpa [blkA] using hC.ext) rfl hC.blk
theorem Tr.freeze (h : Tr m0 M0 X m (ownA S t sz v n xs :: H)) (hsz : 0 < sz) : Tr m0 M0 X m (roA sz v xs :: H) := by
  have hn := List.nodup_append.1 (ofps_cons _ _ ▸ h.hold.nd)
  refine h.turn (B := roA sz v xs) (fun hP => ⟨Own.sl hP (fun k hk hx => ?_), hsz⟩) (fun k hk => by cases hk) (by simp [roA])
  rw [ofps_cons] at hx
  rcases List.mem_append.1 hx with h1 | h1
  · rcases List.mem_append.1 h1 with h2 | h2
    · cases h2
    · exact hn.2.2 k hk k h2 rfl
  · exact h.hold.out k (by rw [ofps_cons]; exact List.mem_append_left _ hk) h1
theorem Tr.grow {S' : List Nat} {v' : Value} {n' : Nat} {xs' : List Value} (h : Tr m0 M0 X m (ownA S t sz v n xs :: H)) (hO : Own m' S' t sz v' n' xs') (hE : Ext m S m') (hF : FpNew m S S') : Tr m0 M0 X m' (ownA S' t sz v' n' xs' :: H) := by
  have hn := List.nodup_append.1 (ofps_cons _ _ ▸ h.hold.nd)
  refine h.step (A := ownA S t sz v n xs) hE hF hO.nd (fun k hk hx => ?_) hO
  rcases hF k hk with h1 | h1
  · rcases List.mem_append.1 hx with h2 | h2
    · exact hn.2.2 k h1 k h2 rfl
    · exact h.hold.out k (by rw [ofps_cons]; exact List.mem_append_left _ h1) h2
  · rcases List.mem_append.1 hx with h2 | h2
    · have := h.hold.lt k (by rw [ofps_cons]; exact List.mem_append_right _ h2); omega
    · have := h.xlt k h2; have := h.ext.size; omega
theorem Tr.made (h : Tr m0 M0 X m H) (hO : Own m' S t sz v n xs) (hN : New m S m') : Tr m0 M0 X m' (ownA S t sz v n xs :: H) :=
  h.new hN.1 (fun k hk => hN.ge k hk) hO.nd hO
theorem Tr.calm (h : Tr m0 M0 X m H) (hE : Ext m [] m') : Tr m0 M0 X m' H := (h.new (B := pureA True) hE (fun k hk => by cases hk) (by simp [pureA]) trivial).tail
theorem Tr.empty (h : Tr m0 M0 X m H) (t : TypeId) (sz : Nat) (A : Option Addr) : Tr m0 M0 X m (ownA [] t sz (.slice A 0 0) 0 [] :: H) :=
  h.new (B := ownA [] t sz (.slice A 0 0) 0 []) (Ext.refl m []) (fun k hk => by cases hk) (by simp [ownA]) (Own.empty m t sz A)
end
section
variable {P : Program} {T : Ty} {ops : Array Oper} {Q : Exit → Act → World → Prop} {rest : List Oper} {n : Nat} {e e' : Env} {D : Fr} {m0 m : World} {M0 X : List Nat} {H F Pre : List Asn}
  {d : Option Tmp} {x y : Operand} {t ty : TypeId} {pos : String} {aft : Array Edge} {g : Option (Nat × Bool)} {v : Value} {r : Row}
theorem RL.allocS (hT : T.Ok P) (hr : T.row t = some r) (hS : Tr m0 M0 X m H) {cs : List Value} (hcs : r.zero.cells = cs.toArray) (hg : gd ops e ⟨d, .alloc t, ty, pos, aft, g⟩ = some true)
    (h : ∀ b m', Tr m0 M0 X m' (blkA b t cs :: H) → ∃ e', putE n d (.pointer (some ⟨b, 0, none⟩)) e = some e' ∧ RL P ops Q rest n e' D m') : RL P ops Q (⟨d, .alloc t, ty, pos, aft, g⟩ :: rest) n e D m :=
  RL.alloc hT hr hg (fun b m' hb hC => h b m' (hS.alloc (hcs ▸ hC) hb))
theorem RL.boxS (hS : Tr m0 M0 X m H) {cs : List Value} (hx : e.ev x = some v) (hcs : v.cells = cs.toArray) (hg : gd ops e ⟨d, .box t x, ty, pos, aft, g⟩ = some true)
    (h : ∀ b m', Tr m0 M0 X m' (blkA b t cs :: H) → ∃ e', putE n d (.pointer (some ⟨b, 0, none⟩)) e = some e' ∧ RL P ops Q rest n e' D m') : RL P ops Q (⟨d, .box t x, ty, pos, aft, g⟩ :: rest) n e D m :=
  RL.box hx hg (fun b m' hb hC => h b m' (hS.alloc (hcs ▸ hC) hb))
end
inductive Sel (A : Asn) : List Asn → List Asn → Prop
  | head {H : List Asn} : Sel A (A :: H) H
  | tail {B : Asn} {H H' : List Asn} : Sel A H H' → Sel A (B :: H) (B :: H')
theorem Sel.perm {A : Asn} {H H' : List Asn} (h : Sel A H H') : H.Perm (A :: H') := by
  induction h with
  | head => exact .refl _
  | tail _ ih => exact (ih.cons _).trans (.swap ..)
inductive Sels : List Asn → List Asn → List Asn → Prop
  | nil {H : List Asn} : Sels [] H H
  | ro {A : Asn} {Pre H F : List Asn} : A ∈ H → A.own = [] → Sels Pre H F → Sels (A :: Pre) H F
  | own {A : Asn} {Pre H H1 F : List Asn} : Sel A H H1 → Sels Pre H1 F → Sels (A :: Pre) H F
theorem Sels.tr {m0 m : World} {M0 X : List Nat} {Pre H F : List Asn} (h : Sels Pre H F) : ∀ (G : List Asn), Tr m0 M0 X m (G ++ H) → Tr m0 M0 X m (G ++ (Pre ++ F)) := by
  induction h with
  | nil => intro G h; exact h
  | @ro A Pre H F hA ho _ ih =>
    intro G h
    have h1 : Tr m0 M0 X m (A :: (G ++ H)) := h.more ho (h.hold.all A (List.mem_append_right _ hA))
    have h2 := ih (G ++ [A]) (h1.perm (by
      rw [List.append_assoc]
      exact (List.perm_middle (l₁ := G) (a := A) (l₂ := H)).symm))
    simpa [List.append_assoc] using h2
  | @own A Pre H H1 F hs _ ih =>
    intro G h
    have h2 := ih (G ++ [A]) (h.perm (by rw [List.append_assoc]; exact (hs.perm.append_left G)))
    simpa [List.append_assoc] using h2
theorem Tr.sels {m0 m : World} {M0 X : List Nat} {Pre H F : List Asn} (h : Tr m0 M0 X m H) (hs : Sels Pre H F) : Tr m0 M0 X m (Pre ++ F) := hs.tr [] h
inductive Rep (A B : Asn) : List Asn → List Asn → Prop
  | head {H : List Asn} : Rep A B (A :: H) (B :: H)
  | tail {C : Asn} {H H' : List Asn} : Rep A B H H' → Rep A B (C :: H) (C :: H')
theorem Rep.perms {A B : Asn} {H H' : List Asn} (h : Rep A B H H') : ∃ F, H.Perm (A :: F) ∧ (B :: F).Perm H' := by
  induction h with
  | @head H => exact ⟨H, .refl _, .refl _⟩
  | @tail C _ _ _ ih =>
    obtain ⟨F, h1, h2⟩ := ih
    exact ⟨C :: F, (h1.cons C).trans (.swap ..), (List.Perm.swap ..).trans (h2.cons C)⟩
inductive AllIn (H : List Asn) : List Asn → Prop
  | nil : AllIn H []
  | cons {A : Asn} {L : List Asn} : A ∈ H → AllIn H L → AllIn H (A :: L)
theorem AllIn.mem {H L : List Asn} {A : Asn} (h : AllIn H L) (hA : A ∈ L) : A ∈ H := by
  induction h with
  | nil => cases hA
  | cons h1 _ ih =>
    rcases List.mem_cons.1 hA with rfl | h2
    · exact h1
    · exact ih h2
section
variable {m0 m m' : World} {M0 X : List Nat} {H H' : List Asn} {A : Asn}
theorem Tr.mem (h : Tr m0 M0 X m H) (hA : A ∈ H) : A.P m (ofps H ++ X) := h.hold.all A hA
theorem Tr.rep {b : Nat} {tb : TypeId} {cs cs' : List Value} (h : Tr m0 M0 X m H) (hr : Rep (blkA b tb cs) (blkA b tb cs') H H') (hC : Chg m b (.cells cs'.toArray tb (0, 0)) m') : Tr m0 M0 X m' H' := by
  obtain ⟨F, h1, h2⟩ := hr.perms
  exact ((h.perm h1).store hC).perm h2
theorem Tr.shape {S : List Nat} {t : TypeId} {sz n : Nat} {v : Value} {xs : List Value} (h : Tr m0 M0 X m (ownA S t sz v n xs :: H)) : ∃ A c, v = .slice A n c ∧ n ≤ c := Own.shape h.head
def JS (m0 : World) (M0 X : List Nat) (L : List Asn) (m : World) : Prop := ∃ H, Tr m0 M0 X m H ∧ AllIn H L
end
section
variable {P : Program} {T : Ty} {ops : Array Oper} {Q : Exit → Act → World → Prop} {l l' rest : List Oper} {n : Nat} {e e' : Env} {D : Fr} {ds : List Deferred} {m0 m : World} {M0 X : List Nat} {H H' F Pre L : List Asn}
  {d : Option Tmp} {x y : Operand} {t ty : TypeId} {pos : String} {aft : Array Edge} {g : Option (Nat × Bool)} {v : Value} {r : Row} {J : World → Prop} {fin : List Nat} {fuel : Nat} {listed : Array Bool}
theorem RL.autoP (hT : T.Ok P) (h : runA T ops n 60 e l = (e', l')) (_ : Nat.blt l'.length l.length = true) (hk : RL P ops Q l' n e' D m) : RL P ops Q l n e D m := runA_sound hT 60 e l e' l' h hk
theorem RL.loadM (hT : T.Ok P) (hS : Tr m0 M0 X m H) {b i : Nat} {tb : TypeId} {cs : List Value} (hg : gd ops e ⟨d, .load t x, ty, pos, aft, g⟩ = some true) (hx : e.ev x = some (.pointer (some ⟨b, i, none⟩))) (ht : T.plain t = true)
    (hk : blkA b tb cs ∈ H) (hc : cs[i]? = some v) (hp : putE n d v e = some e') (h : RL P ops Q rest n e' D m) : RL P ops Q (⟨d, .load t x, ty, pos, aft, g⟩ :: rest) n e D m :=
  RL.load hT hg hx ht (Blk.cell (hS.mem hk) i hc) hp h
theorem RL.lsM (hT : T.Ok P) (hS : Tr m0 M0 X m H) {b i k : Nat} {tb : TypeId} {cs vs : List Value} (hg : gd ops e ⟨d, .load t x, ty, pos, aft, g⟩ = some true) (hx : e.ev x = some (.pointer (some ⟨b, i, none⟩))) (ht : T.aggN t = some k)
    (hk : blkA b tb cs ∈ H) (hv : (cs.drop i).take k = vs) (hl : vs.length = k) (hp : putE n d (.agg vs.toArray) e = some e') (h : RL P ops Q rest n e' D m) : RL P ops Q (⟨d, .load t x, ty, pos, aft, g⟩ :: rest) n e D m := by
  subst hl
  refine RL.loadAgg hT vs hg hx ht (fun j u hu => ?_) hp h
  rw [add_block]
  refine Blk.cell (hS.mem hk) _ ?_
  have hj := (List.getElem?_eq_some_iff.1 hu).1
  rw [← hv, List.getElem?_take, if_pos hj, List.getElem?_drop] at hu
  exact hu
theorem RL.storeM (hT : T.Ok P) (hS : Tr m0 M0 X m H) {b i : Nat} {tb : TypeId} {cs : List Value} (hg : gd ops e ⟨d, .store t x y, ty, pos, aft, g⟩ = some true)
    (hx : e.ev x = some (.pointer (some ⟨b, i, none⟩))) (hy : e.ev y = some v) (ht : T.plain t = true) (h1 : v.oneCell' = true) (hp : putE n d undef e = some e') (hr : Rep (blkA b tb cs) (blkA b tb (cs.set i v)) H H') (hi : Nat.blt i cs.length = true)
    (h : ∀ m', Tr m0 M0 X m' H' → RL P ops Q rest n e' D m') : RL P ops Q (⟨d, .store t x y, ty, pos, aft, g⟩ :: rest) n e D m := by
  have hB : Blk m b tb cs := by
    obtain ⟨F, h1, _⟩ := hr.perms
    exact hS.mem (A := blkA b tb cs) (h1.mem_iff.2 (zS ..))
  exact RL.store hT hB (by simpa using hi) hg hx hy ht h1 hp (fun m' hC => h m' (hS.rep hr hC))
theorem RL.ssM (hT : T.Ok P) (hS : Tr m0 M0 X m H) {b i q : Nat} {tb : TypeId} {cs vs : List Value} (hg : gd ops e ⟨d, .store t x y, ty, pos, aft, g⟩ = some true)
    (hx : e.ev x = some (.pointer (some ⟨b, i, none⟩))) (hy : e.ev y = some (.agg vs.toArray)) (ht : T.aggN t = some q) (hq : vs.length = q) (h1 : vs.all Value.oneCell' = true) (hp : putE n d undef e = some e') (hr : Rep (blkA b tb cs) (blkA b tb (cs.take i ++ vs ++ cs.drop (i + q))) H H') (hi : Nat.ble (i + q) cs.length = true)
    (h : ∀ m', Tr m0 M0 X m' H' → RL P ops Q rest n e' D m') : RL P ops Q (⟨d, .store t x y, ty, pos, aft, g⟩ :: rest) n e D m := by
  have hB : Blk m b tb cs := by
    obtain ⟨F, h1, _⟩ := hr.perms
    exact hS.mem (A := blkA b tb cs) (h1.mem_iff.2 (zS ..))
  exact RL.storeAgg hT hB hg hx hy ht hq (Nat.le_of_ble_eq_true hi) (List.all_eq_true.1 h1) hp (fun m' hC => h m' (hS.rep hr hC))
theorem RL.callM {f : FuncId} {fo : Operand} {xs : Array Operand} {ts : Array TypeId} {fi ca : List Value} {vs al : List Value} {Post : Value → List Asn → Prop} (hS : Tr m0 M0 X m H) (hc : DoS P f al Pre Post)
    (hg : gd ops e ⟨d, .call ⟨.value fo, xs, ts⟩, ty, pos, aft, g⟩ = some true)
    (hfo : e.ev fo = some (.func (.func f) fi.toArray ca.toArray)) (hxs : e.evs xs.toList = some vs) (has : fi ++ vs ++ ca = al) (hs : Sels Pre H F)
    (h : ∀ v m' H', Post v H' → Tr m0 M0 X m' (H' ++ F) → ∃ e', putE n d v e = some e' ∧ RL P ops Q rest n e' D m') : RL P ops Q (⟨d, .call ⟨.value fo, xs, ts⟩, ty, pos, aft, g⟩ :: rest) n e D m :=
  RL.call hg hfo hxs has (hc.at (hS.sels hs)) (fun v m' ⟨H', h1, h2⟩ => h v m' H' h1 h2)
theorem RL.append1M (hT : T.Ok P) (hS : Tr m0 M0 X m H) {te : TypeId} {d1 : Tmp} {S : List Nat} {s : Value} {nn k : Nat} {xs : List Value} {parts : Array (Nat × Operand)} (ys : List Operand) {us : List Value} (news : List Value) {ty1 : TypeId} {pos1 : String} {aft1 : Array Edge}
    (he : T.elem t = some (te, r)) (hparts : parts = (opsParts 0 ys).toArray) (hk : ys.length = k) (hne : Nat.blt 0 k = true) (hsm : Nat.ble k 16000 = true) (hnt : notTmp x d1 = true) (hd1 : Nat.blt d1 n = true)
    (hx : e.ev x = some s) (hus : e.evs ys = some us) (hcs : us.flatMap (·.cells.toList) = news) (hr : Sel (ownA S te r.size s nn xs) H F) (hu : ∀ u ∈ us, u.cells.size = r.size) (h1 : ∀ u ∈ news, u.oneCell' = true) (hmax : nn + k ≤ maxLen) (hbytes : (nn + k) * r.bytes ≤ 140737488355328)
    (h : ∀ b v' m' S', Tr m0 M0 X m' (ownA S' te r.size v' (nn + k) (xs ++ news) :: F) → ∃ e', putE n d v' ((d1, .slice (some ⟨b, 0, none⟩) k k) :: e) = some e' ∧ RL P ops Q rest n e' D m') :
    RL P ops Q (⟨some d1, .buildSlice t k parts, ty1, pos1, aft1, none⟩ :: ⟨d, .call ⟨.builtin .append, #[x, .tmp d1], #[t, t]⟩, ty, pos, aft, none⟩ :: rest) n e D m := by
  have hS' := hS.perm hr.perm
  exact RL.append1 hT ys (show Own m S te r.size s nn xs from hS'.head) news he hparts hk hne hsm hnt hd1 hx hus hu hcs h1 hmax hbytes (fun v' m' S' hO hE hF => h _ v' m' S' (hS'.grow hO hE hF))
theorem RL.appendM (hT : T.Ok P) (hS : Tr m0 M0 X m H) {te tx : TypeId} {S : List Nat} {s sx : Value} {nn k : Nat} {xs : List Value} (news : List Value)
    (he : T.elem t = some (te, r)) (htx : T.srcOk tx te = true)
    (hg : gd ops e ⟨d, .call ⟨.builtin .append, #[x, y], #[t, tx]⟩, ty, pos, aft, g⟩ = some true) (hx : e.ev x = some s) (hy : e.ev y = some sx) (hr : Sel (ownA S te r.size s nn xs) H F) (hsrc : Src P r.size m sx k news) (hl : news.length = k * r.size)
    (h1 : ∀ u ∈ news, u.oneCell' = true) (hmax : nn + k ≤ maxLen) (hbytes : (nn + k) * r.bytes ≤ 140737488355328)
    (h : ∀ v' m' S', Tr m0 M0 X m' (ownA S' te r.size v' (nn + k) (xs ++ news) :: F) → ∃ e', putE n d v' e = some e' ∧ RL P ops Q rest n e' D m') :
    RL P ops Q (⟨d, .call ⟨.builtin .append, #[x, y], #[t, tx]⟩, ty, pos, aft, g⟩ :: rest) n e D m := by
  have hS' := hS.perm hr.perm
  exact RL.append hT (show Own m S te r.size s nn xs from hS'.head) news hsrc he htx hg hx hy hl h1 hmax hbytes (fun v' m' S' hO hE hF => h v' m' S' (hS'.grow hO hE hF))
theorem RH.loadM (hT : T.Ok P) (hQ : PanicOk Q) (i : Nat) {b j : Nat} {tb : TypeId} {cs : List Value} (hi : ops[i]? = some ⟨d, .load t x, ty, pos, aft, g⟩) (hB : (plainOps ops && takesB ops fin listed [i]) = true) (hg : gd ops e ⟨d, .load t x, ty, pos, aft, g⟩ = some true) (hx : e.ev x = some (.pointer (some ⟨b, j, none⟩))) (ht : T.plain t = true)
    (hk : blkA b tb cs ∈ L) (hc : cs[j]? = some v) (hp : putE n d v e = some e') (h : RH P ops Q (JS m0 M0 X L) fin fuel (listed.setIfInBounds i true) n e' D m) : RH P ops Q (JS m0 M0 X L) fin (fuel + 1) listed n e D m :=
  RH.load hT hQ i (fun _ ⟨_, hS, hL⟩ => Blk.cell (hS.mem (hL.mem hk)) j hc) hi hB hg hx ht hp h
theorem RH.loadSegM (hT : T.Ok P) (hQ : PanicOk Q) (i : Nat) {b j k : Nat} {tb : TypeId} {cs vs : List Value} (hi : ops[i]? = some ⟨d, .load t x, ty, pos, aft, g⟩) (hB : (plainOps ops && takesB ops fin listed [i]) = true) (hg : gd ops e ⟨d, .load t x, ty, pos, aft, g⟩ = some true) (hx : e.ev x = some (.pointer (some ⟨b, j, none⟩))) (ht : T.aggN t = some k)
    (hk : blkA b tb cs ∈ L) (hv : (cs.drop j).take k = vs) (hl : vs.length = k) (hp : putE n d (.agg vs.toArray) e = some e') (h : RH P ops Q (JS m0 M0 X L) fin fuel (listed.setIfInBounds i true) n e' D m) : RH P ops Q (JS m0 M0 X L) fin (fuel + 1) listed n e D m := by
  subst hl
  refine RH.loadAgg hT hQ i vs (fun m' ⟨_, hS, hL⟩ q u hu => ?_) hi hB hg hx ht hp h
  rw [add_block]
  refine Blk.cell (hS.mem (hL.mem hk)) _ ?_
  have hj := (List.getElem?_eq_some_iff.1 hu).1
  rw [← hv, List.getElem?_take, if_pos hj, List.getElem?_drop] at hu
  exact hu
theorem RH.contM {i : Nat} (hS : Tr m0 M0 X m H) (hL : AllIn H L) (h : RH P ops Q (JS m0 M0 X L) fin fuel listed n e D m) : QN (Exit.then (onlyK D.ro P ops Q (JS m0 M0 X L) fin i fuel listed) Q) .normal n e D m := RH.cont ⟨H, hS, hL⟩ h
end
end Go.Ev
end
section
namespace Go.Ev
open Go.RowKit Go.WideShapes Go.ChangeShapes
section
variable {H : Type} {enc : TypeId × Value → H} {P : Program}
def World.undrawn (W : World) : World := { W with drawn := 0 }
theorem Sim.undrawn (W : World) : Sim (World.undrawn W) W := ⟨rfl, rfl, rfl, rfl, Nat.zero_le _⟩
theorem DoS.law {f : FuncId} {args : List Value} {Pre : List Asn} {Post : Value → List Asn → Prop} (h : DoS P f args Pre Post) (hP : ∀ r H', Post r H' → r = .bool true) (m : World) (ho : ofps Pre = []) (hp : ∀ A ∈ Pre, A.P m []) : FnR P f args m fun r m' => r = .bool true ∧ Ext m [] m' := by
  have hT : Tr m (ofps Pre) [] m Pre := Tr.start ⟨fun A hA => by rw [ho]; exact hp A hA, by rw [ho]; exact List.nodup_nil, fun k hk => by rw [ho] at hk; cases hk⟩ (fun _ h => by cases h)
  exact (h m [] hT).mono fun r m' ⟨H', hr, hT'⟩ => ⟨hP _ _ hr, by have := hT'.ext; rwa [ho] at this⟩
theorem law_liftL {a : Assume} {C : Checked} {os : Os} {f : FuncId} {fn : Func} {s : ChangeSpec} {conds : List PathCond} {apart fresh handsOn again : Bool} {tb : TypeId} {X : World → Array Value → Prop}
    (hX : ∀ (w w' : World) (args : Array Value), w.heap = w'.heap → X w args → X w' args)
    (own : ownKnob C.prog.godebug = none) (started : os.Started) (noInit : C.prog.inits.idxOf? f = none) (hfn : C.prog.funcs[f]? = some fn)
    (witness : ∃ (w : World) (tape : Tape) (i : Input), w.os = os ∧ (w.forCall tape i).Shaped C.prog ∧ i.vars = [] ∧ Input.okWide C.prog (w.forCall tape i) .any w.heap.size f i ∧
      ((s.pre enc C.prog fn conds apart (w.forCall tape i).memory i.args ∧ X (w.forCall tape i).memory i.args) ∧ sizedMet enc C.prog fn (OpenSpec.ofChange s) apart (w.forCall tape i).memory i.args) ∧ a.holds C.prog (lone (Frame.enter C.prog f i.args .normal) [] (w.forCall tape i)))
    (hl : laidOutB C.prog = true) (hts : fn.params.toList.all (fun t => C.prog.readableRec t && decide (t < C.prog.types.size)) = true)
    (hr : fn.resultTypes = #[tb]) (htb : C.prog.underlying tb = some .bool) (hv : s.vars = [])
    (hspec : ∀ ds : List (DataW H), ds.length = fn.params.toList.length → (s.fn H ds).results = [.lit (.bool true)] ∧ (s.fn H ds).args = ds ∧ (s.fn H ds).vars = [])
    (hc : ∀ (W : World) (base : Nat) (args : Array Value) (ds : List (DataW H)) (p : List MemPlace), (∀ (j : Nat) t v, fn.params[j]? = some t → args[j]? = some v → Value.okWide C.prog W .any base t v) →
      DataW.TrodAll enc C.prog W 0 (fun _ => true) true fn.params.toList args.toList ds p → (DataW.weightsEach C.prog fn.params.toList ds).all (· ≤ reachBytes) = true → X W args →
      FnR C.prog f args.toList (World.undrawn W) fun r m' => r = .bool true ∧ Ext (World.undrawn W) [] m') :
    ReturnsInHanded a C os f .any (fun w args => (s.pre enc C.prog fn conds apart w args ∧ X w args) ∧ sizedMet enc C.prog fn (OpenSpec.ofChange s) apart w args) (s.post enc C.prog fn apart fresh handsOn again) := by
  refine returnsInHanded_of_change_and hX own started noInit hfn witness ?_
  intro W base args ds gs before hval hW _ hw hx _
  have hW' := hW
  obtain ⟨p, q, hA, hV, rfl, hfz, hnd⟩ := hW
  rw [hv] at hV
  obtain ⟨rfl, rfl⟩ := trodVars_none hV
  have hvt : s.plain.varTypes C.prog = [] := by
    have : s.plain.vars = [] := hv
    simp [DataSpec.varTypes, this]
  rw [hvt, List.append_nil, List.append_nil] at hw
  have hlen : ds.length = fn.params.toList.length := trodAll_len hA
  obtain ⟨h1, h2, h3⟩ := hspec ds hlen
  have hF := hc W base args ds p hval hA hw hx
  refine (hF.2 W (Sim.undrawn W)).mono fun e W' ⟨m', hs, v, he, hvt, hE⟩ => ⟨v, he, ?_⟩
  subst hvt
  have hb : Below W.heap.size W W' := ⟨hs.os.trans hE.os, hs.tape.trans hE.tape, hs.output.trans hE.output, by rw [hs.heap]; exact hE.size, fun k hk => by rw [hs.heap]; exact hE.far k hk (by simp)⟩
  rw [List.append_nil] at hW'
  have hlt : ∀ x ∈ p, x.block < W.heap.size := fun x hx => hW'.lt x hx
  refine post_of_below' (pa := p) (pv := []) hW' (fun b sp hd => ?_) (fun sp hsp => ?_) (fun sp _ => ?_) (by simp) hb (ok_one hr rfl (okWide_bool_mk htb true))
  · rw [List.append_nil, h1, hr]
    exact trodAll_mk1 (shut_bool htb true)
  · rw [List.append_nil, h2]
    exact trodAll_carry hl hb hts hA hlt hsp
  · rw [List.append_nil, h3, hv]
    rfl
end
end Go.Ev
end
section
namespace Go.Ids
structure Rng where
  c : Nat
  f : Nat
  t : Nat
  deriving DecidableEq
def num (n : Nat) : Bool := decide (1 ≤ n) && decide (n ≤ 9007199254740991)
def Rng.right (x : Rng) : Bool := num x.c && decide (1 ≤ x.f) && decide (x.f < x.t) && decide (x.t ≤ 9007199254740992)
theorem right_iff {x : Rng} : x.right = true ↔ 1 ≤ x.c ∧ x.c ≤ 9007199254740991 ∧ 1 ≤ x.f ∧ x.f < x.t ∧ x.t ≤ 9007199254740992 := by
  simp [Rng.right, num, and_assoc]
def Rng.has (x : Rng) (c k : Nat) : Prop := x.right = true ∧ x.c = c ∧ x.f ≤ k ∧ k < x.t
def mem (l : List Rng) (c k : Nat) : Prop := ∃ x ∈ l, x.has c k
theorem mem_nil {c k : Nat} : ¬ mem [] c k := fun ⟨_, h, _⟩ => by cases h
theorem mem_cons {x : Rng} {l : List Rng} {c k : Nat} : mem (x :: l) c k ↔ x.has c k ∨ mem l c k := by
  constructor
  · rintro ⟨y, hy, h⟩
    rcases List.mem_cons.1 hy with rfl | hy
    · exact .inl h
    · exact .inr ⟨y, hy, h⟩
  · rintro (h | ⟨y, hy, h⟩)
    · exact ⟨x, zS .., h⟩
    · exact ⟨y, zO _ hy, h⟩
theorem mem_append {a b : List Rng} {c k : Nat} : mem (a ++ b) c k ↔ mem a c k ∨ mem b c k := by
  constructor
  · rintro ⟨y, hy, h⟩
    rcases List.mem_append.1 hy with hy | hy
    · exact .inl ⟨y, hy, h⟩
    · exact .inr ⟨y, hy, h⟩
  · rintro (⟨y, hy, h⟩ | ⟨y, hy, h⟩)
    · exact ⟨y, List.mem_append_left _ hy, h⟩
    · exact ⟨y, List.mem_append_right _ hy, h⟩
theorem mem_perm {a b : List Rng} (h : a.Perm b) {c k : Nat} : mem a c k ↔ mem b c k :=
  ⟨fun ⟨y, hy, hh⟩ => ⟨y, h.mem_iff.1 hy, hh⟩, fun ⟨y, hy, hh⟩ => ⟨y, h.mem_iff.2 hy, hh⟩⟩
theorem mem_filter {l : List Rng} {c k : Nat} : mem (l.filter Rng.right) c k ↔ mem l c k :=
  ⟨fun ⟨y, hy, hh⟩ => ⟨y, (List.mem_filter.1 hy).1, hh⟩, fun ⟨y, hy, hh⟩ => ⟨y, List.mem_filter.2 ⟨hy, hh.1⟩, hh⟩⟩
theorem mem_reverse {l : List Rng} {c k : Nat} : mem l.reverse c k ↔ mem l c k :=
  ⟨fun ⟨y, hy, hh⟩ => ⟨y, List.mem_reverse.1 hy, hh⟩, fun ⟨y, hy, hh⟩ => ⟨y, List.mem_reverse.2 hy, hh⟩⟩
def Rng.bef (x y : Rng) : Prop := x.c < y.c ∨ (x.c = y.c ∧ x.t < y.f)
def Canon (l : List Rng) : Prop := (∀ x ∈ l, x.right = true) ∧ l.Pairwise Rng.bef
theorem Canon.nil : Canon [] := ⟨(fun _ h => by cases h), List.Pairwise.nil⟩
theorem Canon.tail {x : Rng} {l : List Rng} (h : Canon (x :: l)) : Canon l := ⟨fun y hy => h.1 y (zO _ hy), (List.pairwise_cons.1 h.2).2⟩
theorem Canon.head {x : Rng} {l : List Rng} (h : Canon (x :: l)) : x.right = true := h.1 x (zS ..)
theorem Canon.behind {x y : Rng} {l : List Rng} (h : Canon (x :: l)) (hy : y ∈ l) : x.bef y := (List.pairwise_cons.1 h.2).1 y hy
theorem Canon.mem_behind {x : Rng} {l : List Rng} (h : Canon (x :: l)) {c k : Nat} (hm : mem l c k) : x.c < c ∨ (x.c = c ∧ x.t < k) := by
  obtain ⟨y, hy, hr, rfl, h1, h2⟩ := hm
  rcases h.behind hy with h3 | ⟨h3, h4⟩
  · exact .inl h3
  · exact .inr ⟨h3, by omega⟩
theorem canon_unique : ∀ {a b : List Rng}, Canon a → Canon b → (∀ c k, mem a c k ↔ mem b c k) → a = b
  | [], [], _, _, _ => rfl
  | [], y :: b, _, hb, h => by
    have hr := right_iff.1 hb.head
    exact absurd ((h y.c y.f).2 ⟨y, zS .., hb.head, rfl, Nat.le_refl _, by omega⟩) mem_nil
  | x :: a, [], ha, _, h => by
    have hr := right_iff.1 ha.head
    exact absurd ((h x.c x.f).1 ⟨x, zS .., ha.head, rfl, Nat.le_refl _, by omega⟩) mem_nil
  | x :: a, y :: b, ha, hb, h => by
    have hx := right_iff.1 ha.head
    have hy := right_iff.1 hb.head
    have inx : mem (x :: a) x.c x.f := mem_cons.2 (.inl ⟨ha.head, rfl, Nat.le_refl _, by omega⟩)
    have iny : mem (y :: b) y.c y.f := mem_cons.2 (.inl ⟨hb.head, rfl, Nat.le_refl _, by omega⟩)
    have lb : ∀ {z : Rng} {l : List Rng}, Canon (z :: l) → ∀ {c k}, mem (z :: l) c k → z.c < c ∨ (z.c = c ∧ z.f ≤ k) := fun {z l} hc {c k} hm => by
      rcases mem_cons.1 hm with ⟨_, h1, h2, _⟩ | hm
      · exact .inr ⟨h1, h2⟩
      · have hz := right_iff.1 hc.head
        rcases hc.mem_behind hm with h1 | ⟨h1, h2⟩
        · exact .inl h1
        · exact .inr ⟨h1, by omega⟩
    have h1 := lb hb ((h _ _).1 inx)
    have h2 := lb ha ((h _ _).2 iny)
    have hc : x.c = y.c := by omega
    have hf : x.f = y.f := by omega
    have out : ∀ {z : Rng} {l : List Rng}, Canon (z :: l) → ¬ mem (z :: l) z.c z.t := fun {z l} hcan hm => by
      rcases mem_cons.1 hm with ⟨_, _, _, h3⟩ | hm
      · omega
      · rcases hcan.mem_behind hm with h3 | ⟨_, h3⟩ <;> omega
    have ht : x.t = y.t := by
      rcases Nat.lt_trichotomy x.t y.t with h3 | h3 | h3
      · exfalso
        refine out ha ((h x.c x.t).2 (mem_cons.2 (.inl ⟨hb.head, hc.symm, by omega, h3⟩)))
      · exact h3
      · exfalso
        refine out hb ((h y.c y.t).1 (mem_cons.2 (.inl ⟨ha.head, hc, by omega, h3⟩)))
    have hxy : x = y := by cases x; cases y; simp_all
    subst hxy
    have htl : ∀ c k, mem a c k ↔ mem b c k := fun c k => by
      have h9 := h c k
      rw [mem_cons, mem_cons] at h9
      constructor
      · intro hm
        rcases h9.1 (.inr hm) with ⟨_, h3, h4, h5⟩ | h3
        · rcases ha.mem_behind hm with h6 | ⟨h6, h7⟩ <;> omega
        · exact h3
      · intro hm
        rcases h9.2 (.inr hm) with ⟨_, h3, h4, h5⟩ | h3
        · rcases hb.mem_behind hm with h6 | ⟨h6, h7⟩ <;> omega
        · exact h3
    rw [canon_unique ha.tail hb.tail htl]
def Rng.le (x y : Rng) : Prop := x.c < y.c ∨ (x.c = y.c ∧ x.f ≤ y.f)
def Rng.lt (x y : Rng) : Bool := decide (x.c < y.c) || (decide (x.c = y.c) && decide (x.f < y.f))
def mg : List Rng → Rng → List Rng
  | y :: r, x => if y.c = x.c ∧ x.f ≤ y.t then { y with t := max y.t x.t } :: r else x :: y :: r
  | [], x => [x]
theorem mg_cons (y : Rng) (r : List Rng) (x : Rng) : mg (y :: r) x = if y.c = x.c ∧ x.f ≤ y.t then { y with t := max y.t x.t } :: r else x :: y :: r := rfl
def CanonR (l : List Rng) : Prop := (∀ x ∈ l, x.right = true) ∧ l.Pairwise fun x y => Rng.bef y x
theorem mg_spec {r : List Rng} {x : Rng} (h : CanonR r) (hx : x.right = true) (hle : ∀ y r', r = y :: r' → y.le x) :
    CanonR (mg r x) ∧ (∀ c k, mem (mg r x) c k ↔ mem r c k ∨ x.has c k) ∧ ∀ z, x.le z → ∀ y r', mg r x = y :: r' → y.le z := by
  cases r with
  | nil =>
    refine ⟨⟨fun y hy => ?_, by simp [mg]⟩, fun c k => ?_, fun z hz y r' h => ?_⟩
    · have : y = x := by simpa [mg] using hy
      subst this; exact hx
    · show mem [x] c k ↔ _
      rw [mem_cons]
      constructor
      · rintro (h | h)
        · exact .inr h
        · exact absurd h mem_nil
      · rintro (h | h)
        · exact absurd h mem_nil
        · exact .inl h
    · simp [mg] at h
      rw [← h.1]; exact hz
  | cons y r =>
    have hy := h.1 y (zS ..)
    have hyr := right_iff.1 hy
    have hxr := right_iff.1 hx
    have hl := hle y r rfl
    rw [mg_cons]
    by_cases hc : y.c = x.c ∧ x.f ≤ y.t
    · rw [if_pos hc]
      have hm : Rng.right { y with t := max y.t x.t } = true := right_iff.2 ⟨hyr.1, hyr.2.1, hyr.2.2.1, by simp only; omega, by simp only; omega⟩
      have hyf : y.f ≤ x.f := by rcases hl with h1 | h1 <;> omega
      refine ⟨⟨fun z hz => ?_, ?_⟩, fun c k => ?_, fun z hz w r' hw => ?_⟩
      · rcases List.mem_cons.1 hz with rfl | hz
        · exact hm
        · exact h.1 z (zO _ hz)
      · have := List.pairwise_cons.1 h.2
        exact List.pairwise_cons.2 ⟨fun z hz => this.1 z hz, this.2⟩
      · rw [mem_cons, mem_cons]
        constructor
        · rintro (⟨_, h1, h2, h3⟩ | h1)
          · simp only at h1 h2 h3
            by_cases hk : k < y.t
            · exact .inl (.inl ⟨hy, h1, h2, hk⟩)
            · exact .inr ⟨hx, by omega, by omega, by omega⟩
          · exact .inl (.inr h1)
        · rintro ((⟨_, h1, h2, h3⟩ | h1) | ⟨_, h1, h2, h3⟩)
          · exact .inl ⟨hm, h1, h2, by simp only; omega⟩
          · exact .inr h1
          · exact .inl ⟨hm, by simp only; omega, by simp only; omega, by simp only; omega⟩
      · simp only [List.cons.injEq] at hw
        rw [← hw.1]
        rcases hl with h1 | h1 <;> rcases hz with h2 | h2 <;> simp only [Rng.le] <;> omega
    · rw [if_neg hc]
      have hb : y.bef x := by
        rcases hl with h1 | ⟨h1, h2⟩
        · exact .inl h1
        · refine .inr ⟨h1, ?_⟩
          rcases Nat.lt_or_ge y.t x.f with h3 | h3
          · exact h3
          · exact absurd ⟨h1, h3⟩ hc
      refine ⟨⟨fun z hz => ?_, List.pairwise_cons.2 ⟨fun z hz => ?_, h.2⟩⟩, fun c k => ?_, fun z hz w r' hw => ?_⟩
      · rcases List.mem_cons.1 hz with rfl | hz
        · exact hx
        · exact h.1 z hz
      · rcases List.mem_cons.1 hz with rfl | hz
        · exact hb
        · have h3 := (List.pairwise_cons.1 h.2).1 z hz
          rcases h3 with h3 | ⟨h3, h4⟩ <;> rcases hb with h5 | ⟨h5, h6⟩ <;> simp only [Rng.bef] <;> omega
      · rw [mem_cons, or_comm]
      · simp only [List.cons.injEq] at hw
        rw [← hw.1]; exact hz
theorem merge_spec : ∀ (l r : List Rng), CanonR r → (∀ x ∈ l, x.right = true) → l.Pairwise Rng.le → (∀ y r', r = y :: r' → ∀ x ∈ l, y.le x) →
    CanonR (l.foldl mg r) ∧ ∀ c k, mem (l.foldl mg r) c k ↔ mem r c k ∨ mem l c k
  | [], r, hr, _, _, _ => ⟨hr, fun c k => ⟨.inl, fun h => h.resolve_right mem_nil⟩⟩
  | x :: l, r, hr, hl, hp, hle => by
    have hp' := List.pairwise_cons.1 hp
    obtain ⟨h1, h2, h3⟩ := mg_spec hr (hl x (zS ..)) (fun y r' h => hle y r' h x (zS ..))
    obtain ⟨h4, h5⟩ := merge_spec l (mg r x) h1 (fun y hy => hl y (zO _ hy)) hp'.2 (fun y r' h z hz => h3 z (hp'.1 z hz) y r' h)
    refine ⟨h4, fun c k => ?_⟩
    show mem (l.foldl mg (mg r x)) c k ↔ _
    rw [h5, h2, mem_cons, or_assoc]
theorem CanonR.reverse {l : List Rng} (h : CanonR l) : Canon l.reverse := ⟨fun x hx => h.1 x (List.mem_reverse.1 hx), List.pairwise_reverse.2 h.2⟩
def ins (x : Rng) : List Rng → List Rng
  | [] => [x]
  | y :: l => if x.lt y then x :: y :: l else y :: ins x l
def isort (l : List Rng) : List Rng := l.foldr ins []
theorem ins_perm (x : Rng) : ∀ l, (ins x l).Perm (x :: l)
  | [] => List.Perm.refl _
  | y :: l => by
    unfold ins
    split
    · exact List.Perm.refl _
    · exact ((ins_perm x l).cons y).trans (List.Perm.swap x y l)
theorem lt_iff {x y : Rng} : x.lt y = true ↔ x.c < y.c ∨ (x.c = y.c ∧ x.f < y.f) := by simp [Rng.lt]
theorem le_of_not_lt {x y : Rng} (h : ¬ x.lt y = true) : y.le x := by rw [lt_iff] at h; simp only [Rng.le]; omega
theorem ins_sorted (x : Rng) : ∀ l, l.Pairwise Rng.le → (ins x l).Pairwise Rng.le
  | [], _ => by simp [ins]
  | y :: l, h => by
    have h' := List.pairwise_cons.1 h
    unfold ins
    split
    · rename_i hc
      rw [lt_iff] at hc
      refine List.pairwise_cons.2 ⟨fun z hz => ?_, h⟩
      rcases List.mem_cons.1 hz with rfl | hz
      · simp only [Rng.le]; omega
      · have := h'.1 z hz
        simp only [Rng.le] at this ⊢; omega
    · rename_i hc
      refine List.pairwise_cons.2 ⟨fun z hz => ?_, ins_sorted x l h'.2⟩
      rcases List.mem_cons.1 ((ins_perm x l).mem_iff.1 hz) with rfl | hz
      · exact le_of_not_lt hc
      · exact h'.1 z hz
theorem isort_perm : ∀ l, (isort l).Perm l
  | [] => List.Perm.refl _
  | x :: l => (ins_perm x _).trans ((isort_perm l).cons x)
theorem isort_sorted : ∀ l, (isort l).Pairwise Rng.le
  | [] => List.Pairwise.nil
  | x :: l => ins_sorted x _ (isort_sorted l)
def clean (l : List Rng) : List Rng := ((isort (l.filter Rng.right)).foldl mg []).reverse
theorem merged (l d : List Rng) (hp : d.Perm (l.filter Rng.right)) (hs : d.Pairwise Rng.le) : Canon (d.foldl mg []).reverse ∧ ∀ c k, mem (d.foldl mg []).reverse c k ↔ mem l c k := by
  obtain ⟨h1, h2⟩ := merge_spec d [] ⟨(fun _ h => by cases h), List.Pairwise.nil⟩ (fun x hx => (List.mem_filter.1 (hp.mem_iff.1 hx)).2) hs (fun y r' h => by cases h)
  refine ⟨h1.reverse, fun c k => ?_⟩
  rw [mem_reverse, h2, mem_perm hp, mem_filter]
  exact ⟨fun h => h.resolve_left mem_nil, .inr⟩
theorem clean_canon (l : List Rng) : Canon (clean l) := (merged l _ (isort_perm _) (isort_sorted _)).1
theorem clean_mem (l : List Rng) (c k : Nat) : mem (clean l) c k ↔ mem l c k := (merged l _ (isort_perm _) (isort_sorted _)).2 c k
theorem merged_clean (l d : List Rng) (hp : d.Perm (l.filter Rng.right)) (hs : d.Pairwise Rng.le) : (d.foldl mg []).reverse = clean l :=
  canon_unique (merged l d hp hs).1 (clean_canon l) fun c k => by rw [(merged l d hp hs).2, clean_mem]
theorem mg_len (r : List Rng) (x : Rng) : (mg r x).length ≤ r.length + 1 := by
  cases r with
  | nil => simp [mg]
  | cons y r => rw [mg_cons]; split <;> simp
theorem foldl_mg_len : ∀ (l r : List Rng), (l.foldl mg r).length ≤ r.length + l.length
  | [], r => by simp
  | x :: l, r => by
    have := foldl_mg_len l (mg r x)
    have := mg_len r x
    simp only [List.foldl_cons, List.length_cons]
    omega
theorem clean_len (l : List Rng) : (clean l).length ≤ l.length := by
  unfold clean
  rw [List.length_reverse]
  have h1 := foldl_mg_len (isort (l.filter Rng.right)) []
  have h2 := (isort_perm (l.filter Rng.right)).length_eq
  have h3 := List.length_filter_le Rng.right l
  simp only [List.length_nil, Nat.zero_add] at h1
  omega
end Go.Ids
end
section
namespace Go.Ids
theorem has_iff {x : Rng} (h1 : 1 ≤ x.c) (h2 : x.c ≤ 9007199254740991) (h3 : 1 ≤ x.f) (h4 : x.t ≤ 9007199254740992) (c k : Nat) : x.has c k ↔ x.c = c ∧ x.f ≤ k ∧ k < x.t :=
  ⟨fun h => h.2, fun h => ⟨right_iff.2 ⟨h1, h2, h3, by omega, h4⟩, h⟩⟩
def cutM (s : Rng × List Rng) (y : Rng) : Rng × List Rng :=
  if s.1.c ≠ y.c ∨ y.t ≤ s.1.f ∨ s.1.t ≤ y.f then s else ({ s.1 with f := y.t }, s.2 ++ [⟨s.1.c, s.1.f, y.f⟩])
def outM (B : List Rng) (x : Rng) (out : List Rng) : List Rng := (B.foldl cutM (x, out)).2 ++ [(B.foldl cutM (x, out)).1]
def minusO (A B : List Rng) : List Rng := A.foldl (fun out x => outM B x out) []
theorem cutM_spec : ∀ (B : List Rng) (x : Rng) (out : List Rng), Canon B → 1 ≤ x.c → x.c ≤ 9007199254740991 → 1 ≤ x.f → x.t ≤ 9007199254740992 →
    ∀ c k, mem (outM B x out) c k ↔ mem out c k ∨ (x.has c k ∧ ¬ mem B c k)
  | [], x, out, _, _, _, _, _, c, k => by
    simp only [outM, List.foldl_nil]
    rw [mem_append, mem_cons]
    constructor
    · rintro (h | h | h)
      · exact .inl h
      · exact .inr ⟨h, mem_nil⟩
      · exact absurd h mem_nil
    · rintro (h | h)
      · exact .inl h
      · exact .inr (.inl h.1)
  | y :: B, x, out, hB, h1, h2, h3, h4, c, k => by
    have hy := right_iff.1 hB.head
    have e : outM (y :: B) x out = outM B (cutM (x, out) y).1 (cutM (x, out) y).2 := rfl
    rw [e]
    by_cases hc : x.c ≠ y.c ∨ y.t ≤ x.f ∨ x.t ≤ y.f
    · have : cutM (x, out) y = (x, out) := if_pos hc
      rw [this, cutM_spec B x out hB.tail h1 h2 h3 h4, mem_cons]
      constructor
      · rintro (h | ⟨h, h'⟩)
        · exact .inl h
        · refine .inr ⟨h, ?_⟩
          rintro (hh | hh)
          · obtain ⟨_, g1, g2, g3⟩ := h
            obtain ⟨_, g4, g5, g6⟩ := hh
            omega
          · exact h' hh
      · rintro (h | ⟨h, h'⟩)
        · exact .inl h
        · exact .inr ⟨h, fun hh => h' (.inr hh)⟩
    · have hx2 : cutM (x, out) y = ({ x with f := y.t }, out ++ [⟨x.c, x.f, y.f⟩]) := if_neg hc
      rw [hx2, cutM_spec B _ _ hB.tail (by exact h1) (by exact h2) (by show 1 ≤ y.t; omega) (by exact h4), mem_append, mem_cons, mem_cons]
      have i1 := has_iff (x := ⟨x.c, x.f, y.f⟩) h1 h2 h3 (by show y.f ≤ _; omega) c k
      have i2 := has_iff (x := { x with f := y.t }) h1 h2 (by show 1 ≤ y.t; omega) h4 c k
      have i3 := has_iff h1 h2 h3 h4 c k
      have i4 := has_iff hy.1 hy.2.1 hy.2.2.1 hy.2.2.2.2 c k
      simp only at i1 i2
      have hbeh : mem B c k → y.c < c ∨ (y.c = c ∧ y.t < k) := fun hm => by
        obtain ⟨z, hz, g0, g1, g2, g3⟩ := hm
        rcases hB.behind hz with g4 | ⟨g4, g5⟩
        · exact .inl (by omega)
        · exact .inr ⟨by omega, by omega⟩
      rw [i1, i2, i3, i4]
      constructor
      · rintro ((h | h | h) | ⟨h, h'⟩)
        · exact .inl h
        · refine .inr ⟨by omega, ?_⟩
          rintro (hh | hh)
          · omega
          · have := hbeh hh; omega
        · exact absurd h mem_nil
        · refine .inr ⟨by omega, ?_⟩
          rintro (hh | hh)
          · omega
          · exact h' hh
      · rintro (h | ⟨h, h'⟩)
        · exact .inl (.inl h)
        · by_cases hk : k < y.f
          · exact .inl (.inr (.inl (by omega)))
          · refine .inr ⟨?_, fun hh => h' (.inr hh)⟩
            have : ¬ (y.c = c ∧ y.f ≤ k ∧ k < y.t) := fun hh => h' (.inl hh)
            omega
theorem minusO_spec (B : List Rng) (hB : Canon B) : ∀ (A : List Rng) (out : List Rng), (∀ x ∈ A, x.right = true) → ∀ c k, mem (A.foldl (fun out x => outM B x out) out) c k ↔ mem out c k ∨ (mem A c k ∧ ¬ mem B c k)
  | [], out, _, c, k => by
    simp only [List.foldl_nil]
    exact ⟨.inl, fun h => h.elim id fun h => absurd h.1 mem_nil⟩
  | x :: A, out, hA, c, k => by
    have hx := right_iff.1 (hA x (zS ..))
    rw [List.foldl_cons, minusO_spec B hB A _ (fun z hz => hA z (zO _ hz)), cutM_spec B x out hB hx.1 hx.2.1 hx.2.2.1 hx.2.2.2.2, mem_cons]
    constructor
    · rintro ((h | h) | h)
      · exact .inl h
      · exact .inr ⟨.inl h.1, h.2⟩
      · exact .inr ⟨.inr h.1, h.2⟩
    · rintro (h | ⟨h | h, h'⟩)
      · exact .inl (.inl h)
      · exact .inl (.inr ⟨h, h'⟩)
      · exact .inr ⟨h, h'⟩
def minus (a b : List Rng) : List Rng := clean (minusO (clean a) (clean b))
theorem minus_mem (a b : List Rng) (c k : Nat) : mem (minus a b) c k ↔ mem a c k ∧ ¬ mem b c k := by
  unfold minus minusO
  rw [clean_mem, minusO_spec _ (clean_canon b) _ _ (clean_canon a).1, clean_mem, clean_mem]
  exact ⟨fun h => h.resolve_left mem_nil, .inr⟩
theorem minus_canon (a b : List Rng) : Canon (minus a b) := clean_canon _
theorem cutM_len : ∀ (B : List Rng) (s : Rng × List Rng), (B.foldl cutM s).2.length ≤ s.2.length + B.length
  | [], s => by simp
  | y :: B, s => by
    have := cutM_len B (cutM s y)
    have h2 : (cutM s y).2.length ≤ s.2.length + 1 := by unfold cutM; split <;> simp
    rw [List.foldl_cons, List.length_cons]
    omega
theorem outM_len (B : List Rng) (x : Rng) (out : List Rng) : (outM B x out).length ≤ out.length + (B.length + 1) := by
  unfold outM
  have := cutM_len B (x, out)
  simp only [List.length_append, List.length_cons, List.length_nil] at *
  omega
theorem minusO_len : ∀ (A B : List Rng) (out : List Rng), (A.foldl (fun out x => outM B x out) out).length ≤ out.length + A.length * (B.length + 1)
  | [], B, out => by simp
  | x :: A, B, out => by
    have h1 := minusO_len A B (outM B x out)
    have h2 := outM_len B x out
    rw [List.foldl_cons, List.length_cons, Nat.succ_mul]
    omega
theorem minus_nil (a : List Rng) : minus a [] = clean a := canon_unique (minus_canon _ _) (clean_canon _) fun c k => by rw [minus_mem, clean_mem]; exact ⟨fun h => h.1, fun h => ⟨h, mem_nil⟩⟩
def join (a b : List Rng) : List Rng := clean (a ++ b)
theorem join_mem (a b : List Rng) (c k : Nat) : mem (join a b) c k ↔ mem a c k ∨ mem b c k := by unfold join; rw [clean_mem, mem_append]
theorem join_canon (a b : List Rng) : Canon (join a b) := clean_canon _
end Go.Ids
end
section
namespace Go.Ids
structure Clk where
  c : Nat
  k : Nat
  deriving DecidableEq, Inhabited
end Go.Ids
end
section
namespace Go.Ev
open Go.RowKit
theorem rdU_enc (most : Nat) : ∀ (k : Nat) (d i n : Nat) (l : List UInt8), d < 128 ^ (k + 1) → n + d * 128 ^ i ≤ most → n + d * 128 ^ i < 18446744073709551616 → (0 < i → 0 < d) → rdU most i n (encU d ++ l) = .ok (n + d * 128 ^ i, l) := by
  intro k
  induction k with
  | zero =>
    intro d i n l hd hm h64 hi
    have hd : d < 128 := by simpa using hd
    rw [encU_small hd]
    have e : (UInt8.ofNat d).toNat = d := by rw [UInt8.toNat_ofNat', Nat.mod_eq_of_lt (by omega)]
    show rdU most i n (UInt8.ofNat d :: l) = _
    unfold rdU
    rw [e]
    have h9 : ¬ (i = 9 ∧ 1 < d) := by
      rintro ⟨rfl, h1⟩
      have : d * 128 ^ 9 ≥ 2 * 128 ^ 9 := Nat.mul_le_mul_right _ h1
      omega
    rw [if_neg h9, if_neg (by omega), if_neg (by omega), Nat.mod_eq_of_lt hd, if_neg (by omega)]
  | succ k ih =>
    intro d i n l hd hm h64 hi
    by_cases hs : d < 128
    · have e : (UInt8.ofNat d).toNat = d := by rw [UInt8.toNat_ofNat', Nat.mod_eq_of_lt (by omega)]
      rw [encU_small hs]
      show rdU most i n (UInt8.ofNat d :: l) = _
      unfold rdU
      rw [e]
      have h9 : ¬ (i = 9 ∧ 1 < d) := by
        rintro ⟨rfl, h1⟩
        have : d * 128 ^ 9 ≥ 2 * 128 ^ 9 := Nat.mul_le_mul_right _ h1
        omega
      rw [if_neg h9, if_neg (by omega), if_neg (by omega), Nat.mod_eq_of_lt hs, if_neg (by omega)]
    · rw [encU_big (by omega)]
      have e : (UInt8.ofNat (d % 128 + 128)).toNat = d % 128 + 128 := by rw [UInt8.toNat_ofNat', Nat.mod_eq_of_lt (by omega)]
      show rdU most i n (UInt8.ofNat (d % 128 + 128) :: (encU (d / 128) ++ l)) = _
      have h9 : i ≠ 9 := by
        rintro rfl
        have : d * 128 ^ 9 ≥ 128 * 128 ^ 9 := Nat.mul_le_mul_right _ (by omega)
        omega
      have hv : n + (d % 128 + 128) % 128 * 128 ^ i + d / 128 * 128 ^ (i + 1) = n + d * 128 ^ i := by
        have h1 : (d % 128 + 128) % 128 = d % 128 := by omega
        rw [h1, Nat.pow_succ, Nat.add_assoc]
        congr 1
        rw [Nat.mul_comm (128 ^ i) 128, ← Nat.mul_assoc, ← Nat.add_mul]
        congr 1; omega
      unfold rdU
      rw [e, if_neg (fun hh => h9 hh.1), if_pos (by omega)]
      have hlt : d / 128 < 128 ^ (k + 1) := by
        rw [Nat.pow_succ] at hd
        exact Nat.div_lt_of_lt_mul (by rw [Nat.mul_comm]; exact hd)
      rw [ih (d / 128) (i + 1) _ l hlt (by rw [hv]; exact hm) (by rw [hv]; exact h64) (fun _ => by omega), hv]
theorem rdU_back {most n : Nat} (l : List UInt8) (hm : n ≤ most) (h64 : n < 18446744073709551616) : rdU most 0 0 (encU n ++ l) = .ok (n, l) := by
  have := rdU_enc most 9 n 0 0 l (by omega) (by simpa using hm) (by simpa using h64) (by omega)
  simpa using this
end Go.Ev
end
section
namespace Go.Ids
open Go.Ev
def rdN (most : Nat) (s : List UInt8 × Int) : Nat × List UInt8 × Int := gR 0 s.2 s.1 (rdU most 0 0 s.1)
theorem rdN_back {most n : Nat} (l : List UInt8) (hm : n ≤ most) (h64 : n < 18446744073709551616) : rdN most (encU n ++ l, 0) = (n, l, 0) := gR_ok (rdU_back l hm h64)
end Go.Ids
end
section
namespace Go.Ids
structure Trn where
  c : Nat
  f : Nat
  t : Nat
  n : Nat
  deriving DecidableEq
end Go.Ids
end
section
namespace Go.Ids
open Go.Ev
abbrev St := List UInt8 × Int
def rdB (s : St) : UInt8 × St := gR 0 s.2 s.1 (rdByte s.1)
def rdT (most : Nat) (s : St) : List UInt8 × St := gR [] s.2 s.1 (rdText most s.1)
theorem rdB_back (x : UInt8) (l : List UInt8) : rdB (x :: l, 0) = (x, l, 0) := gR_ok rfl
end Go.Ids
end
section
namespace Go.Ev
open Go.RowKit
structure Kc (B : Nat) (m m' : World) : Prop where
  os : m'.os = m.os
  tape : m'.tape = m.tape
  output : m'.output = m.output
  drawn : dle m.drawn m'.drawn
  size : m.heap.size ≤ m'.heap.size
  low : ∀ k, k < m.heap.size → k < B → m'.heap[k]? = m.heap[k]?
  cells : ∀ (k : Nat) (c : Array Value) (t : TypeId) (z : Nat × Nat), m.heap[k]? = some (Obj.cells c t z) → m'.heap[k]? = some (Obj.cells c t z)
def Kn (fx : Bool) (B : Nat) (m m' : World) : Prop := ∀ (k : Nat) (o : Obj), B ≤ k → m.heap[k]? = some o → (fx = true ∨ o.isCells = false) → m'.heap[k]? = some o
section
variable {m m' m'' : World} {B : Nat} {M : List Nat}
theorem Ext.kc (h : Ext m [] m') : Kc B m m' := ⟨h.os, h.tape, h.output, h.drawn, h.size, fun k h1 _ => h.far k h1 (by simp), fun k c t z hk => (h.far k (Array.getElem?_eq_some_iff.1 hk).1 (by simp)).trans hk⟩
theorem Blk.kc {b : Nat} {t : TypeId} {cs : List Value} (h : Blk m b t cs) (hK : Kc B m m') : Blk m' b t cs := hK.cells _ _ _ _ h
theorem Kc.cell (hK : Kc B m m') {a : Addr} {v : Value} (h : m.cell? a = some v) : m'.cell? a = some v := by
  unfold World.cell? at h ⊢
  split at h
  · rename_i c t z hc
    rw [hK.cells _ _ _ _ hc]; exact h
  · cases h
theorem Sl.kc {sz : Nat} {v : Value} {xs : List Value} (h : Sl m M sz v xs) (hK : Kc B m m') : Sl m' M sz v xs := by
  obtain ⟨A, n, c, hv, hnc, hc, hl, hA, hr⟩ := h
  refine ⟨A, n, c, hv, hnc, hc, hl, hA, fun hn => ?_⟩
  obtain ⟨ad, had, hb, hcell⟩ := hr hn
  exact ⟨ad, had, hb, fun j u hu => hK.cell (hcell j u hu)⟩
theorem Own.kc {S : List Nat} {t : TypeId} {sz : Nat} {v : Value} {n : Nat} {xs : List Value} (h : Own m S t sz v n xs) (hK : Kc B m m') : Own m' S t sz v n xs := by
  refine ⟨h.1, ?_⟩
  rcases h.2 with h1 | ⟨g, cap, cur, hv, hB, h1, h2, h3, h4, rfl⟩
  · exact .inl h1
  · exact .inr ⟨g, cap, cur, hv, hB.kc hK, h1, h2, h3, h4, rfl⟩
theorem Ext.of_kc {m0 : World} (h : Ext m0 M m) (hK : Kc B m m') (hB : m0.heap.size ≤ B) : Ext m0 M m' :=
  ⟨hK.os.trans h.os, hK.tape.trans h.tape, hK.output.trans h.output, Nat.le_trans h.size hK.size, fun k hk hn => (hK.low k (Nat.lt_of_lt_of_le hk h.size) (Nat.lt_of_lt_of_le hk hB)).trans (h.far k hk hn), h.drawn.trans hK.drawn⟩
theorem Ext.kn (h : Ext m M m') (hM : ∀ k ∈ M, B ≤ k → k < m.heap.size → ∃ (c : Array Value) (t : TypeId) (z : Nat × Nat), m.heap[k]? = some (Obj.cells c t z)) : Kn false B m m' := fun k o hB hk ho => by
  have hlt := (Array.getElem?_eq_some_iff.1 hk).1
  refine (h.far k hlt (fun hm => ?_)).trans hk
  obtain ⟨c, t, z, hc⟩ := hM k hm hB hlt
  rw [hk] at hc
  cases hc
  rcases ho with ho | ho <;> cases ho
theorem Ext.knLow {fx : Bool} (h : Ext m M m') (hM : ∀ k ∈ M, B ≤ k → m.heap.size ≤ k) : Kn fx B m m' := fun k o hB hk _ => by
  have hlt := (Array.getElem?_eq_some_iff.1 hk).1
  refine (h.far k hlt (fun hm => ?_)).trans hk
  have := hM k hm hB
  omega
theorem Ext.kn0 {fx : Bool} (h : Ext m [] m') : Kn fx B m m' := h.knLow (by simp)
theorem Own.cells {S : List Nat} {t : TypeId} {sz : Nat} {v : Value} {n : Nat} {xs : List Value} (h : Own m S t sz v n xs) : ∀ k ∈ S, ∃ (c : Array Value) (t : TypeId) (z : Nat × Nat), m.heap[k]? = some (Obj.cells c t z) := by
  rcases h.2 with ⟨_, _, _, rfl⟩ | ⟨g, _, cur, _, hB, _, _, _, _, rfl⟩
  · simp
  · intro k hk
    have : k = g := by simpa using hk
    subst this
    exact ⟨_, _, _, hB⟩
theorem putObj_kc {l : Nat} {o o' : Obj} (hl : m.heap[l]? = some o) (ho : o.isCells = false) (hB : B ≤ l) : Kc B m (m.putObj l o') := by
  refine ⟨rfl, rfl, rfl, dle.refl _, by simp, fun k _ hk => World.putObj_heap_other (by omega), fun k c t z hk => ?_⟩
  rw [World.putObj_heap_other]
  · exact hk
  · intro h; subst h; rw [hl] at hk; cases hk; cases ho
theorem Sim.putObj {w : World} (h : Sim m w) (l : Nat) (o : Obj) : Sim (m.putObj l o) (w.putObj l o) := ⟨by simp [World.putObj, h.heap], h.os, h.output, h.tape, h.drawn⟩
end
def RdE (P : Program) (l : Nat) (vs : List Value) (m : World) (post : Ending → World → Prop) : Prop :=
  ∀ w, Sim m w → ∃ f tmps assign body, (Instr.yield l vs.toArray).run P w = .ok (.round l f tmps assign body) w ∧ RoundIn Fence.wide 0 P l f tmps assign body w fun e w' => ∃ m', Sim m' w' ∧ post e m'
section
variable {P : Program} {ops : Array Oper} {Q : Exit → Act → World → Prop} {rest : List Oper} {n : Nat} {e e' : Env} {D : Fr} {m : World}
  {d : Option Tmp} {t ty : TypeId} {pos : String} {aft : Array Edge} {g : Option (Nat × Bool)} {v : Value}
theorem RL.yield {l : Nat} {fo : Operand} {xs : Array Operand} {ts : Array TypeId} {vs : List Value} {post : Ending → World → Prop}
    (hg : gd ops e ⟨d, .call ⟨.value fo, xs, ts⟩, ty, pos, aft, g⟩ = some true) (hfo : e.ev fo = some (.func (.yield l) #[] #[])) (hxs : e.evs xs.toList = some vs) (hc : RdE P l vs m post)
    (h : ∀ v m', post (.returned v) m' → ∃ e', putE n d v e = some e' ∧ RL P ops Q rest n e' D m') (hpan : ∀ ch m', ¬ post (.panicked ch) m') (hout : ∀ m', ¬ post .outgrown m') :
    RL P ops Q (⟨d, .call ⟨.value fo, xs, ts⟩, ty, pos, aft, g⟩ :: rest) n e D m := by
  refine RL.run hg (fun _ hh => by cases hh) fun a w hf hs => ?_
  obtain ⟨f, tmps, assign, body, hy, hr⟩ := hc w hs
  have h1 : xs.map a.eval = vs.toArray := Array.ext' (by rw [Array.toList_map]; exact hf.evs hxs)
  have hrun : (execOp a.eval (⟨d, .call ⟨.value fo, xs, ts⟩, ty, pos, aft, g⟩ : Oper)).run P w = .ok (.round l f tmps assign body) w := by
    simp [execOp, resolve, hf.ev hfo, Deferred.ofValue, invoke, h1, hy]
  rw [hrun]
  refine ⟨(fun hh => by cases hh), RoundIn.mono hr fun ed w' ⟨m', hs', hp⟩ => ?_⟩
  cases ed with
  | returned v =>
    obtain ⟨e', hp', hk⟩ := h v m' hp
    exact hk _ w' (hf.put hp') hs'
  | panicked ch => exact absurd hp (hpan ch m')
  | outgrown => exact absurd hp (hout m')
end
def SeqE {α : Type} (P : Program) (gf : FuncId) (lb : List Value) (encs : α → List Value) (fx : Bool) (K : World → Prop) (V : List α → α → Prop) (S Sp : List α → Prop) (m : World) : Prop :=
  ∀ (l : Nat) (J Jx : List α → World → Prop) (m1 : World), Ext m [] m1 → (∀ pre a b, J pre a → Ext a [] b → J pre b) → (∀ pre a b, Jx pre a → Ext a [] b → Jx pre b) → (∀ pre a, J pre a → K a) →
    (∀ pre x a, J pre a → V pre x → RdE P l (encs x) a fun ed b => (ed = .returned (.bool true) ∧ J (pre ++ [x]) b ∧ Kn fx m1.heap.size a b) ∨ (ed = .returned (.bool false) ∧ Jx (pre ++ [x]) b)) → J [] m1 →
    FnR P gf (.func (.yield l) #[] #[] :: lb) m1 fun _ m2 => (∃ xs, S xs ∧ J xs m2) ∨ ∃ pre, Sp pre ∧ Jx pre m2
def putPs (n : Nat) : List Tmp → List Value → Env → Option Env
  | [], [], e => some e
  | p :: ps, v :: vs, e => match Nat.blt p n with
    | true => putPs n ps vs ((p, v) :: e)
    | false => none
  | _, _, _ => none
theorem fits_ps {n : Nat} {ro : Option Nat} : ∀ (ps : List Tmp) (vs : List Value) (e e' : Env) (tmps : Array Value), Fits n e ⟨[], ro⟩ { tmps, defers := [] } → putPs n ps vs e = some e' →
    Fits n e' ⟨[], ro⟩ { tmps := (ps.zip vs).foldl (fun t (x : Tmp × Value) => t.setIfInBounds x.1 x.2) tmps, defers := [] }
  | [], [], e, e', tmps, hf, h => by simp only [putPs, Option.some.injEq] at h; subst h; exact hf
  | p :: ps, v :: vs, e, e', tmps, hf, h => by
    unfold putPs at h
    split at h
    · rename_i hp
      have h1 := hf.put (dst := some p) (v := v) (e' := (p, v) :: e) (by simp [putE, hp])
      exact fits_ps ps vs _ e' _ h1 h
    · cases h
  | [], _ :: _, _, _, _, _, h => by simp [putPs] at h
  | _ :: _, [], _, _, _, _, h => by simp [putPs] at h
def rdPost {α : Type} (fx : Bool) (B : Nat) (I : List α → World → Prop) (Ix : Code → List α → World → Prop) (pre : List α) (m2 : World) : Exit → Act → World → Prop
  | .normal, _, w => ∃ m', Sim m' w ∧ Kn fx B m2 m' ∧ I pre m'
  | .ret, _, w => ∃ m', Sim m' w ∧ Kn fx B m2 m' ∧ Ix .ret pre m'
  | .exit id, _, w => ∃ m', Sim m' w ∧ Kn fx B m2 m' ∧ Ix (.exit id) pre m'
  | _, _, _ => False
section
variable {α : Type} {fx : Bool} {B : Nat} {I : List α → World → Prop} {Ix : Code → List α → World → Prop} {pre : List α} {m2 m' : World} {n : Nat} {e : Env} {D : Fr}
theorem QN.rdNormal (hk : Kn fx B m2 m') (hi : I pre m') : QN (rdPost fx B I Ix pre m2) .normal n e D m' := fun _ _ _ hs => ⟨m', hs, hk, hi⟩
theorem QN.asgEnd {β : Type} {EA : β → Env} {IA : β → World → Prop} (y : β) (hs : Sub (EA y) e) (hk : Kn fx B m2 m') (hi : IA y m') :
    QN (Exit.then (fun a w => ∃ y m', Fits n (EA y) D a ∧ Sim m' w ∧ Kn fx B m2 m' ∧ IA y m') (fun _ _ _ => False)) .normal n e D m' := fun _ _ hf hw => ⟨y, m', hf.sub hs, hw, hk, hi⟩
end
theorem WP.rangeFunc {α β : Type} {P : Program} {Q : Exit → Act → World → Prop} {n : Nat} {e : Env} {ds : List Deferred} {m : World} {g : Operand} {ps : List Tmp} {assign body : Code} {gf : FuncId} {lb : List Value} {fx : Bool} {K : World → Prop} {V : List α → α → Prop} {S Sp : List α → Prop}
    (encs : α → List Value) (hg : e.ev g = some (.func (.func gf) #[] lb.toArray)) (hseq : SeqE P gf lb encs fx K V S Sp m) (hgf : Callable P gf)
    (I : List α → World → Prop) (Ix : Code → List α → World → Prop) (hI : ∀ pre a b, I pre a → Kc m.heap.size a b → I pre b) (hIx : ∀ c pre a b, Ix c pre a → Kc m.heap.size a b → Ix c pre b) (hIK : ∀ pre a, I pre a → K a) (h0 : I [] m)
    (E : α → Env) (hE : ∀ x, putPs n ps (encs x) e = some (E x)) (hps : ∀ x, (encs x).length = ps.length)
    (EA : α → β → Env) (IA : List α → α → β → World → Prop) (hIA : ∀ pre x y a b, IA pre x y a → Kc m.heap.size a b → IA pre x y b)
    (hassign : ∀ l pre x m1, I pre m1 → V pre x → m.heap.size ≤ m1.heap.size → WP P assign (Exit.then (fun a w => ∃ y m2, Fits n (EA x y) ⟨[], some l⟩ a ∧ Sim m2 w ∧ Kn fx m.heap.size m1 m2 ∧ IA pre x y m2) (fun _ _ _ => False)) n (E x) ⟨[], some l⟩ m1)
    (hbody : ∀ l pre x y m2, IA pre x y m2 → V pre x → m.heap.size ≤ m2.heap.size → WP P body (rdPost fx m.heap.size I Ix (pre ++ [x]) m2) n (EA x y) ⟨[], some l⟩ m2)
    (hdone : ∀ D xs m', m.heap.size ≤ D → S xs → I xs m' → m'.heap[D]? = some (.deferred (some [])) → QN Q .normal n e ⟨{ target := .collected D, args := #[] } :: ds, none⟩ m')
    (hstop : ∀ D c pre m', m.heap.size ≤ D → Sp pre → Ix c pre m' → m'.heap[D]? = some (.deferred (some [])) → WP P c Q n e ⟨{ target := .collected D, args := #[] } :: ds, none⟩ m') :
    WP P (.rangeFunc g ps.toArray assign body) Q n e ⟨ds, none⟩ m := by
  intro a w hf hw
  refine wpIn_rangeFunc (F := fenceR none) ?_
  intro fn _
  obtain ⟨B, hB⟩ : ∃ B, m.heap.size = B := ⟨_, rfl⟩
  rw [hB] at hI hIx hIA hassign hbody hdone hstop
  have hsz : w.heap.size = B := by rw [hw.heap, hB]
  obtain ⟨rec, hrec⟩ : ∃ rec : LoopState → Option Code → Loop, rec = fun st pe => { state := st, pending := pe, fn, tmps := a.tmps, params := ps.toArray, assign, body, defers := B } := ⟨_, rfl⟩
  obtain ⟨mW, hmW⟩ : ∃ mW, mW = (m.alloc (.deferred (some []))).alloc (.loop (rec .ready none)) := ⟨_, rfl⟩
  have hsW : Sim mW ((w.alloc (.deferred (some []))).alloc (.loop (rec .ready none))) := by rw [hmW]; exact (hw.alloc _).alloc _
  have hE1 : Ext m [] mW := by
    rw [hmW]
    exact ((Chg.alloc m _).new (Nat.le_refl _)).trans ((Chg.alloc _ _).new (Nat.le_refl _)) (by simp)
  have hLW : mW.heap[B + 1]? = some (.loop (rec .ready none)) := by
    rw [hmW]; have := World.alloc_heap_new (m.alloc (.deferred (some []))) (.loop (rec .ready none)); rwa [World.size_alloc, hB] at this
  have hDW : mW.heap[B]? = some (.deferred (some [])) := by
    rw [hmW, ← hB]; exact (Below.heap_alloc _ _ _ (by simp)).trans (World.alloc_heap_new m _)
  have hev : a.eval g = .func (.func gf) #[] lb.toArray := hf.ev hg
  refine ⟨B + 1, [{ target := .collected B, args := #[] }], (w.alloc (.deferred (some []))).alloc (.loop (rec .ready none)), { target := .fn (.func gf) lb.toArray, args := #[.func (.yield (B + 1)) #[] #[]] }, (w.alloc (.deferred (some []))).alloc (.loop (rec .ready none)), gf,
    #[.func (.yield (B + 1)) #[] #[]] ++ lb.toArray, (w.alloc (.deferred (some []))).alloc (.loop (rec .ready none)), ?_, ?_, fun _ _ => trivial, ?_, fun hh => (by cases hh), ?_⟩
  · have := run_enterLoop_outer (P := P) (w := w) fn a.tmps ps.toArray assign body
    rw [hsz] at this
    rw [hrec]
    exact this
  · simp only [resolve, hev]
    simp [go_sem]
  · exact invoke_fn hgf _ _ _
  · -- the iterator
    have hcall := hseq (B + 1)
      (fun pre c => I pre c ∧ c.heap[B + 1]? = some (.loop (rec .ready none)) ∧ c.heap[B]? = some (.deferred (some [])))
      (fun pre c => ∃ j, Ix j pre c ∧ c.heap[B + 1]? = some (.loop (rec .done (some j))) ∧ c.heap[B]? = some (.deferred (some [])))
      mW hE1
      (fun pre c c' ⟨h1, h2, h3⟩ hE => ⟨hI pre c c' h1 hE.kc, (hE.far _ (Array.getElem?_eq_some_iff.1 h2).1 (by simp)).trans h2, (hE.far _ (Array.getElem?_eq_some_iff.1 h3).1 (by simp)).trans h3⟩)
      (fun pre c c' ⟨j, h1, h2, h3⟩ hE => ⟨j, hIx j pre c c' h1 hE.kc, (hE.far _ (Array.getElem?_eq_some_iff.1 h2).1 (by simp)).trans h2, (hE.far _ (Array.getElem?_eq_some_iff.1 h3).1 (by simp)).trans h3⟩)
      (fun pre c ⟨h1, _⟩ => hIK pre c h1)
      ?_ ⟨hI [] m mW h0 hE1.kc, hLW, hDW⟩
    · have hc := Calls.fr ⟨[], none⟩ (0 - 1) (hcall.2 _ hsW)
      have harr : (Value.func (Fn.yield (B + 1)) #[] #[] :: lb).toArray = #[.func (.yield (B + 1)) #[] #[]] ++ lb.toArray := by simp
      rw [harr] at hc
      refine CallsIn.mono hc ?_
      rintro ed w2 ⟨m2, hs2, v, rfl, ⟨xs, hS, hi, hl, hk⟩ | ⟨pre, hSp, j, hi, hl, hk⟩⟩
      · have hl' : w2.heap[B + 1]? = some (.loop (rec .ready none)) := by rw [hs2.heap]; exact hl
        have hend := run_endLoop (P := P) hl' (by rw [hrec]; simp)
        refine ⟨none, w2.putObj (B + 1) (.loop { rec .ready none with state := .exhausted }), by rw [hend, hrec], ?_⟩
        have hq := hdone B xs (m2.putObj (B + 1) (.loop { rec .ready none with state := .exhausted })) (Nat.le_refl _) hS (hI xs m2 _ hi (putObj_kc hl rfl (by omega))) ((World.putObj_heap_other (by omega)).trans hk)
        exact hq _ _ ⟨hf.size, by show _ ++ _ = _ :: ds; rw [hf.defers]; rfl, hf.get⟩ (hs2.putObj _ _)
      · have hl' : w2.heap[B + 1]? = some (.loop (rec .done (some j))) := by rw [hs2.heap]; exact hl
        have hend := run_endLoop (P := P) hl' (by rw [hrec]; simp)
        refine ⟨some j, w2.putObj (B + 1) (.loop { rec .done (some j) with state := .exhausted }), by rw [hend, hrec], ?_⟩
        have hq := hstop B j pre (m2.putObj (B + 1) (.loop { rec .done (some j) with state := .exhausted })) (Nat.le_refl _) hSp (hIx j pre m2 _ hi (putObj_kc hl rfl (by omega))) ((World.putObj_heap_other (by omega)).trans hk)
        exact hq _ _ ⟨hf.size, by show _ ++ _ = _ :: ds; rw [hf.defers]; rfl, hf.get⟩ (hs2.putObj _ _)
    · -- one round
      rintro pre x c ⟨hi, hl, hk⟩ hlen wc hsc
      have hlw : wc.heap[B + 1]? = some (.loop (rec .ready none)) := by rw [hsc.heap]; exact hl
      have hy := run_yield (P := P) (args := (encs x).toArray) hlw (by rw [hrec]; simpa using hps x)
      rw [hrec] at hy
      refine ⟨fn, _, assign, body, hy, roundIn_of_wpIn (n := 0) trivial ?_⟩
      clear hy
      have hft : Fits n (E x) ⟨[], some (B + 1)⟩ { tmps := (ps.zip (encs x)).foldl (fun t (x : Tmp × Value) => t.setIfInBounds x.1 x.2) a.tmps, defers := [] } :=
        fits_ps ps (encs x) e (E x) a.tmps ⟨hf.size, rfl, hf.get⟩ (hE x)
      have hsizec : B ≤ c.heap.size := by have := (Array.getElem?_eq_some_iff.1 hl).1; omega
      have has := hassign (B + 1) pre x c hi hlen hsizec _ wc hft hsc
      have hzip : (ps.toArray.zip (encs x).toArray).foldl (fun tmps (t, a) => tmps.setIfInBounds t a) a.tmps = (ps.zip (encs x)).foldl (fun t (x : Tmp × Value) => t.setIfInBounds x.1 x.2) a.tmps := by
        simp [List.zip_toArray]
      rw [hzip]
      refine wpIn_mono has ?_
      intro ex a1 w1 hq
      cases ex with
      | normal =>
        obtain ⟨y, c1, hf1, hs1, hkn1, hia1⟩ := hq
        have hl1 := hkn1 _ _ (by omega) hl (.inr rfl)
        have hk1 := hkn1 _ _ (Nat.le_refl _) hk (.inr rfl)
        have hl1w : w1.heap[B + 1]? = some (.loop (rec .ready none)) := by rw [hs1.heap]; exact hl1
        refine ⟨_, run_beginRound hl1w (by rw [hrec]), ?_⟩
        have hlt1 := (Array.getElem?_eq_some_iff.1 hl1).1
        obtain ⟨c2, hc2⟩ : ∃ c2, c2 = c1.putObj (B + 1) (.loop { rec .ready none with state := .busy }) := ⟨_, rfl⟩
        have hl2 : c2.heap[B + 1]? = some (.loop { rec .ready none with state := .busy }) := by rw [hc2]; exact World.putObj_heap_same hlt1
        have hk2 : c2.heap[B]? = some (.deferred (some [])) := by rw [hc2]; exact (World.putObj_heap_other (by omega)).trans hk1
        have hs2 : Sim c2 (w1.putObj (B + 1) (.loop { rec .ready none with state := .busy })) := by rw [hc2]; exact hs1.putObj _ _
        have hia2 : IA pre x y c2 := by rw [hc2]; exact hIA pre x y c1 _ hia1 (putObj_kc hl1 rfl (by omega))
        have hsz2 : B ≤ c2.heap.size := by have := (Array.getElem?_eq_some_iff.1 hl2).1; omega
        have hb := hbody (B + 1) pre x y c2 hia2 hlen hsz2 _ _ hf1 hs2
        refine wpIn_mono hb ?_
        have fin : ∀ (jump : Option Code) (c3 w3 : World), Sim c3 w3 → Kn fx B c2 c3 →
            (Instr.endRound (B + 1) jump).run P w3 = .ok (.bool jump.isNone) (w3.putObj (B + 1) (.loop (rec (if jump.isNone then .ready else .done) jump))) ∧
            Kc B c3 (c3.putObj (B + 1) (.loop (rec (if jump.isNone then .ready else .done) jump))) ∧
            (c3.putObj (B + 1) (.loop (rec (if jump.isNone then .ready else .done) jump))).heap[B + 1]? = some (.loop (rec (if jump.isNone then .ready else .done) jump)) ∧
            (c3.putObj (B + 1) (.loop (rec (if jump.isNone then .ready else .done) jump))).heap[B]? = some (.deferred (some [])) := fun jump c3 w3 hs3 hk3 => by
          have hl3 := hk3 _ _ (by omega) hl2 (.inr rfl)
          have hd3 := hk3 _ _ (Nat.le_refl _) hk2 (.inr rfl)
          have hl3w : w3.heap[B + 1]? = some (.loop { rec .ready none with state := .busy }) := by rw [hs3.heap]; exact hl3
          have hend := run_endRound (P := P) jump hl3w
          rw [hrec] at hend ⊢
          exact ⟨hend, putObj_kc hl3 rfl (by omega), World.putObj_heap_same (Array.getElem?_eq_some_iff.1 hl3).1, (World.putObj_heap_other (by omega)).trans hd3⟩
        intro ex3 a3 w3 hq3
        cases ex3 with
        | normal =>
          obtain ⟨c3, hs3, hkn3, hi3⟩ := hq3
          obtain ⟨h1, h2, h3, h4⟩ := fin none c3 w3 hs3 hkn3
          exact ⟨_, _, h1, _, hs3.putObj _ _, .inl ⟨rfl, ⟨hI _ c3 _ hi3 h2, h3, h4⟩, fun k o hk1 hk2 hk3 => by
            have hWs : mW.heap.size = B + 2 := by rw [hmW, World.size_alloc, World.size_alloc, hB]
            exact (World.putObj_heap_other (by omega)).trans (hkn3 k o (by omega) (by rw [hc2]; exact (World.putObj_heap_other (by omega)).trans (hkn1 k o (by omega) hk2 hk3)) hk3)⟩⟩
        | ret =>
          obtain ⟨c3, hs3, hkn3, hi3⟩ := hq3
          obtain ⟨h1, h2, h3, h4⟩ := fin (some .ret) c3 w3 hs3 hkn3
          exact ⟨_, _, h1, _, hs3.putObj _ _, .inr ⟨rfl, _, hIx _ _ c3 _ hi3 h2, h3, h4⟩⟩
        | exit id =>
          obtain ⟨c3, hs3, hkn3, hi3⟩ := hq3
          obtain ⟨h1, h2, h3, h4⟩ := fin (some (.exit id)) c3 w3 hs3 hkn3
          exact ⟨_, _, h1, _, hs3.putObj _ _, .inr ⟨rfl, _, hIx _ _ c3 _ hi3 h2, h3, h4⟩⟩
        | goto t => exact hq3.elim
        | panic ch => exact hq3.elim
        | outgrown => exact hq3.elim
      | exit id => exact hq.elim
      | goto t => exact hq.elim
      | ret => exact hq.elim
      | panic ch => exact hq.elim
      | outgrown => exact hq.elim
theorem WP.scope {P : Program} {c : Code} {Q : Exit → Act → World → Prop} {n : Nat} {e : Env} {ds : List Deferred} {m : World} (h : WP P c (Exit.noGoto Q) n e ⟨ds, none⟩ m) : WP P (.scope c) Q n e ⟨ds, none⟩ m :=
  WP.of_wp fun a w hf hs => wp_scope_straight (WP.wp h a w hf hs)
theorem WP.label {P : Program} {l : Nat} {Q : Exit → Act → World → Prop} {n : Nat} {e : Env} {D : Fr} {m : World} (h : QN Q .normal n e D m) : WP P (.label l) Q n e D m := fun a w hf hs => wpIn_label (h a w hf hs)
theorem QN.noGotoRet {Q : Exit → Act → World → Prop} {n : Nat} {e : Env} {D : Fr} {m : World} (h : QN Q .ret n e D m) : QN (Exit.noGoto Q) .ret n e D m := h
def bodyQM (P : Program) (fn : Func) (post : Ending → World → Prop) : Exit → Act → World → Prop := bodyPostM Fence.wide 0 P fn fun e w' => ∃ m', Sim m' w' ∧ post e m'
theorem FnE.enterM {P : Program} {f : FuncId} {fn : Func} {c : Code} {args : List Value} {m : World} {post : Ending → World → Prop} (hc : Callable P f)
    (hf : P.funcs[f]? = some fn) (hb : fn.body = some c) (hn : Nat.ble args.length fn.ntmps = true) (h : WP P c (bodyQM P fn post) fn.ntmps (argsEnv 0 args) ⟨[], none⟩ m) : FnE P f args m post :=
  ⟨hc, fun w hs => (callsIn_wide (n := 0)).1 (callsIn_of_wp_marks hf hb trivial (h _ w (args_fits hn) hs))⟩
theorem QN.leaveM {P : Program} {fn : Func} {post : Ending → World → Prop} {n : Nat} {e : Env} {m : World} {Dk : Nat} {r : Value} {x : Exit} (hx : x = .ret ∨ x = .normal) (hk : m.heap[Dk]? = some (.deferred (some [])))
    (h : ∀ m', Kc Dk m m' → (∀ k, k ≠ Dk → m'.heap[k]? = m.heap[k]?) → Res P fn n e ⟨[{ target := .collected Dk, args := #[] }], none⟩ m' r ∧ post (.returned r) m') :
    QN (bodyQM P fn post) x n e ⟨[{ target := .collected Dk, args := #[] }], none⟩ m := by
  intro a w hf hs
  have hkw : w.heap[Dk]? = some (.deferred (some [])) := by rw [hs.heap]; exact hk
  have key : LeavesInM Fence.wide 0 P fn a.tmps (fun e w' => ∃ m', Sim m' w' ∧ post e m') a.defers .returning w := by
    rw [hf.defers]
    refine ⟨by simp, .inl ⟨Dk, _, rfl, run_takeDeferred hkw, ?_⟩⟩
    obtain ⟨h1, h2⟩ := h (m.putObj Dk (.deferred none)) (putObj_kc hk rfl (Nat.le_refl _)) (fun k hk => World.putObj_heap_other hk)
    exact ⟨r, h1 a _ hf (hs.putObj _ _), _, hs.putObj _ _, h2⟩
  rcases hx with rfl | rfl
  · exact key
  · exact key
theorem QN.leaveM0 {P : Program} {fn : Func} {post : Ending → World → Prop} {n : Nat} {e : Env} {m : World} {r : Value} {x : Exit} (hx : x = .ret ∨ x = .normal)
    (h1 : Res P fn n e ⟨[], none⟩ m r) (h2 : post (.returned r) m) : QN (bodyQM P fn post) x n e ⟨[], none⟩ m := by
  intro a w hf hs
  have key : LeavesInM Fence.wide 0 P fn a.tmps (fun e w' => ∃ m', Sim m' w' ∧ post e m') a.defers .returning w := by
    rw [hf.defers]
    exact ⟨r, h1 a w hf hs, m, hs, h2⟩
  rcases hx with rfl | rfl
  · exact key
  · exact key
end Go.Ev
end
section
namespace Go.Ev
open Go.RowKit
section
variable {P : Program} {T : Ty} {ops : Array Oper} {Q : Exit → Act → World → Prop} {J : World → Prop} {fin : List Nat} {fuel : Nat} {listed : Array Bool} {rest : List Oper} {n : Nat} {e e' : Env} {D : Fr} {ds : List Deferred} {m : World}
  {d : Option Tmp} {x y : Operand} {t ty : TypeId} {pos : String} {aft : Array Edge} {g : Option (Nat × Bool)}
theorem RH.sliceFrom (hT : T.Ok P) (hQ : PanicOk Q) (i : Nat) {s l len cap : Nat} {A : Option Addr} {k : IntKind} {j : Int} (hi : ops[i]? = some ⟨d, .slice t x (some y) none none, ty, pos, aft, g⟩) (hB : (plainOps ops && takesB ops fin listed [i]) = true) (hs : T.sliceOf t = some s)
    (hg : gd ops e ⟨d, .slice t x (some y) none none, ty, pos, aft, g⟩ = some true) (hx : e.ev x = some (.slice A len cap)) (hy : e.ev y = some (.int k j)) (hj : j = (l : Int)) (hl : l ≤ len)
    (hp : putE n d (.slice (if cap = l then A else A.map (·.add (l * s))) (len - l) (cap - l)) e = some e') (h : RH P ops Q J fin fuel (listed.setIfInBounds i true) n e' D m) : RH P ops Q J fin (fuel + 1) listed n e D m := by
  simp only [takesB, Bool.and_eq_true, Bool.and_true] at hB
  subst hj
  refine RH.take hi hB.1 hB.2.1 hB.2.2 hQ (fun a hf => .inl ⟨gd_sound hf hg, fun w _ => ?_⟩) hp h
  obtain ⟨te, hu, hsz⟩ := sizeOf_run hT hs w
  simp [execOp, hf.ev hx, hf.ev hy, Instr.sliceAt, Instr.slice, Instr.sliceBounds, Instr.sliceBound, asIntOf, run_underlying hu, hsz, hl]
theorem RH.eqv {k : Nat} {v v' : Value} (hv : v = v') (h : RH P ops Q J fin fuel listed n ((k, v') :: e) D m) : RH P ops Q J fin fuel listed n ((k, v) :: e) D m := by subst hv; exact h
end
end Go.Ev
end
