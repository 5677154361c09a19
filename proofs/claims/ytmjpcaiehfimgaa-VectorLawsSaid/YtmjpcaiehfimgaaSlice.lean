/- Slices that are read: their shape, cutting, an element's address, bytes to a string. No conditions. -/
import Derived.Test.YtmjpcaiehfimgaaDefer
import Derived.Laws.BytesString
namespace Go.Ev
open Go.RowKit

section
variable {m m' : World} {M : List Nat} {sz n c : Nat} {v : Value} {A : Option Addr} {xs : List Value}
theorem Sl.shape {n : Nat} (h : Sl m M sz v xs) (hn : xs.length = n * sz) (hsz : 0 < sz) : ∃ A c, v = .slice A n c ∧ n ≤ c ∧ c ≤ maxLen := by
  obtain ⟨A, n', c, hv, hnc, hc, hl, _, _⟩ := h
  have : n' = n := Nat.eq_of_mul_eq_mul_right hsz (hl.symm.trans hn)
  subst this
  exact ⟨A, c, hv, hnc, hc⟩
theorem Sl.len (h : Sl m M sz (.slice A n c) xs) : xs.length = n * sz ∧ n ≤ c ∧ c ≤ maxLen := by
  obtain ⟨A', n', c', hv, hnc, hc, hl, _, _⟩ := h
  injection hv with h1 h2 h3
  subst h1; subst h2; subst h3
  exact ⟨hl, hnc, hc⟩
theorem Sl.one (h : Sl m M sz v xs) : v.oneCell' = true := by
  obtain ⟨A, n', c, rfl, _⟩ := h; rfl
theorem Sl.addr (h : Sl m M sz (.slice A n c) xs) (hn : 0 < n) : ∃ ad, A = some ad ∧ ad.block ∉ M ∧ ∀ j u, xs[j]? = some u → m.cell? (ad.add j) = some u := by
  obtain ⟨A', n', c', hv, hnc, hc, hl, hA, hr⟩ := h
  injection hv with h1 h2 h3
  subst h1; subst h2; subst h3
  exact hr hn
theorem Sl.empty (m : World) (M : List Nat) (sz : Nat) (A : Option Addr) (c : Nat) (hA : A = none → c = 0) (hc : c ≤ maxLen) : Sl m M sz (.slice A 0 c) [] :=
  ⟨A, 0, c, rfl, Nat.zero_le _, hc, by simp, hA, fun h => absurd h (by omega)⟩
/-- s[l:] -/
theorem Sl.from_ (h : Sl m M sz (.slice A n c) xs) {l : Nat} (hl : l ≤ n) : Sl m M sz (.slice (if c = l then A else A.map (·.add (l * sz))) (n - l) (c - l)) (xs.drop (l * sz)) := by
  obtain ⟨A', n', c', hv, hnc, hc, hlen, hA, hr⟩ := h
  injection hv with h1 h2 h3
  subst h1; subst h2; subst h3
  refine ⟨_, n - l, c - l, rfl, by omega, by omega, by rw [List.length_drop, hlen, Nat.sub_mul], fun hn => ?_, fun hn => ?_⟩
  · split at hn
    · omega
    · cases A with
      | none => have := hA rfl; omega
      | some a => cases hn
  · obtain ⟨ad, rfl, hb, hcell⟩ := hr (by omega)
    rw [if_neg (by omega)]
    refine ⟨ad.add (l * sz), rfl, by rw [block_add]; exact hb, fun j u hu => ?_⟩
    rw [add_add]
    exact hcell _ u (by rw [← hu, List.getElem?_drop])
/-- s[:h], s[:h:k] -/
theorem Sl.upto (h : Sl m M sz (.slice A n c) xs) {l k : Nat} (hl : l ≤ n) (hk : l ≤ k) (hkc : k ≤ c) : Sl m M sz (.slice A l k) (xs.take (l * sz)) := by
  obtain ⟨A', n', c', hv, hnc, hc, hlen, hA, hr⟩ := h
  injection hv with h1 h2 h3
  subst h1; subst h2; subst h3
  refine ⟨A, l, k, rfl, hk, by omega, ?_, fun hn => by have := hA hn; omega, fun hn => ?_⟩
  · rw [List.length_take, hlen]; exact Nat.min_eq_left (Nat.mul_le_mul_right _ hl)
  · obtain ⟨ad, rfl, hb, hcell⟩ := hr (by omega)
    refine ⟨ad, rfl, hb, fun j u hu => hcell j u ?_⟩
    rw [List.getElem?_take] at hu
    split at hu
    · exact hu
    · cases hu
end

section
variable {P : Program} {T : Ty} {ops : Array Oper} {Q : Exit → Act → World → Prop} {rest : List Oper} {n : Nat} {e e' : Env} {D : Fr} {m : World} {M : List Nat}
  {d : Option Tmp} {x y : Operand} {t ty tx : TypeId} {pos : String} {aft : Array Edge} {g : Option (Nat × Bool)} {v : Value} {r : Row} {A : Option Addr} {len cap : Nat}
/-- The element type and its size. -/
def Ty.sliceOf (T : Ty) (t : TypeId) : Option Nat := match T.row t with
  | some rt => match rt.k with
    | .sli te => match T.row te with
      | some r => some r.size
      | none => none
    | _ => none
  | none => none
theorem Ty.sliceOf_spec {T : Ty} {t : TypeId} {s : Nat} (h : T.sliceOf t = some s) : ∃ rt te r, T.row t = some rt ∧ rt.k = .sli te ∧ T.row te = some r ∧ r.size = s := by
  unfold Ty.sliceOf at h
  split at h
  · rename_i rt hrt
    split at h
    · rename_i te hk
      split at h
      · rename_i r hr; exact ⟨rt, te, r, hrt, hk, hr, Option.some.inj h⟩
      · cases h
    · cases h
  · cases h
theorem sizeOf_run (hT : T.Ok P) {s : Nat} (hs : T.sliceOf t = some s) (w : World) : ∃ te, P.underlying t = some (.slice te) ∧ (sizeOf te).run P w = .ok s w := by
  obtain ⟨rt, te, r, hrt, hk, hr, rfl⟩ := Ty.sliceOf_spec hs
  have hu := (hT.row hrt).k
  rw [hk] at hu
  exact ⟨te, hu, (hT.row hr).run_size w⟩
/-- s[l:] -/
theorem RL.sliceFrom (hT : T.Ok P) {s l : Nat} {k : IntKind} {j : Int} (hs : T.sliceOf t = some s) (hg : gd ops e ⟨d, .slice t x (some y) none none, ty, pos, aft, g⟩ = some true) (hx : e.ev x = some (.slice A len cap)) (hy : e.ev y = some (.int k j)) (hj : j = (l : Int)) (hl : l ≤ len)
    (hp : putE n d (.slice (if cap = l then A else A.map (·.add (l * s))) (len - l) (cap - l)) e = some e') (h : RL P ops Q rest n e' D m) : RL P ops Q (⟨d, .slice t x (some y) none none, ty, pos, aft, g⟩ :: rest) n e D m := by
  subst hj
  refine RL.value _ hg (fun a w hf _ => ?_) hp h
  obtain ⟨te, hu, hsz⟩ := sizeOf_run hT hs w
  simp [execOp, hf.ev hx, hf.ev hy, Instr.sliceAt, Instr.slice, Instr.sliceBounds, Instr.sliceBound, asIntOf, run_underlying hu, hsz, hl]
/-- s[:h] -/
theorem RL.sliceTo (hT : T.Ok P) {s l : Nat} {k : IntKind} {j : Int} (hs : T.sliceOf t = some s) (hg : gd ops e ⟨d, .slice t x none (some y) none, ty, pos, aft, g⟩ = some true) (hx : e.ev x = some (.slice A len cap)) (hy : e.ev y = some (.int k j)) (hj : j = (l : Int)) (hl : l ≤ cap)
    (hp : putE n d (.slice A l cap) e = some e') (h : RL P ops Q rest n e' D m) : RL P ops Q (⟨d, .slice t x none (some y) none, ty, pos, aft, g⟩ :: rest) n e D m := by
  subst hj
  refine RL.value _ hg (fun a w hf _ => ?_) hp h
  obtain ⟨te, hu, hsz⟩ := sizeOf_run hT hs w
  have hA : (if cap = 0 then A else A.map (·.add 0)) = A := by split <;> cases A <;> simp [Addr.add]
  simp [execOp, hf.ev hx, hf.ev hy, Instr.sliceAt, Instr.slice, Instr.sliceBounds, Instr.sliceBound, asIntOf, run_underlying hu, hsz, hl, hA]
/-- s[:h:k] -/
theorem RL.sliceTo3 (hT : T.Ok P) {z : Operand} {s l q : Nat} {k k' : IntKind} {j j' : Int} (hs : T.sliceOf t = some s) (hg : gd ops e ⟨d, .slice t x none (some y) (some z), ty, pos, aft, g⟩ = some true) (hx : e.ev x = some (.slice A len cap)) (hy : e.ev y = some (.int k j)) (hz : e.ev z = some (.int k' j')) (hj : j = (l : Int)) (hj' : j' = (q : Int)) (hl : l ≤ q) (hq : q ≤ cap)
    (hp : putE n d (.slice A l q) e = some e') (h : RL P ops Q rest n e' D m) : RL P ops Q (⟨d, .slice t x none (some y) (some z), ty, pos, aft, g⟩ :: rest) n e D m := by
  subst hj; subst hj'
  refine RL.value _ hg (fun a w hf _ => ?_) hp h
  obtain ⟨te, hu, hsz⟩ := sizeOf_run hT hs w
  have hA : (if q = 0 then A else A.map (·.add 0)) = A := by split <;> cases A <;> simp [Addr.add]
  simp [execOp, hf.ev hx, hf.ev hy, hf.ev hz, Instr.sliceAt, Instr.slice, Instr.sliceBounds, Instr.sliceBound, asIntOf, run_underlying hu, hsz, hl, hq, hA]
/-- s[l:h] -/
theorem RL.sliceIn (hT : T.Ok P) {z : Operand} {s l q : Nat} {k k' : IntKind} {j j' : Int} (hs : T.sliceOf t = some s) (hg : gd ops e ⟨d, .slice t x (some y) (some z) none, ty, pos, aft, g⟩ = some true) (hx : e.ev x = some (.slice A len cap)) (hy : e.ev y = some (.int k j)) (hz : e.ev z = some (.int k' j')) (hj : j = (l : Int)) (hj' : j' = (q : Int)) (hl : l ≤ q) (hq : q ≤ cap)
    (hp : putE n d (.slice (if cap = l then A else A.map (·.add (l * s))) (q - l) (cap - l)) e = some e') (h : RL P ops Q rest n e' D m) : RL P ops Q (⟨d, .slice t x (some y) (some z) none, ty, pos, aft, g⟩ :: rest) n e D m := by
  subst hj; subst hj'
  refine RL.value _ hg (fun a w hf _ => ?_) hp h
  obtain ⟨te, hu, hsz⟩ := sizeOf_run hT hs w
  simp [execOp, hf.ev hx, hf.ev hy, hf.ev hz, Instr.sliceAt, Instr.slice, Instr.sliceBounds, Instr.sliceBound, asIntOf, run_underlying hu, hsz, hl, hq]

/-- An element's address, by a slice's own fact. -/
theorem RL.index (hT : T.Ok P) {s : Nat} {xs : List Value} (hS : Sl m M s (.slice A len cap) xs) {k : Nat} {j : Int} {kk : IntKind} (hj : j = (k : Int)) (hlt : k < len) (hs : T.sliceOf t = some s)
    (hg : gd ops e ⟨d, .indexAddr t x y, ty, pos, aft, g⟩ = some true) (hx : e.ev x = some (.slice A len cap)) (hy : e.ev y = some (.int kk j))
    (h : ∀ ad, A = some ad → ad.block ∉ M → (∀ i u, xs[k * s + i]? = some u → m.cell? ((ad.add (k * s)).add i) = some u) → ∃ e', putE n d (.pointer (some (ad.add (k * s)))) e = some e' ∧ RL P ops Q rest n e' D m) : RL P ops Q (⟨d, .indexAddr t x y, ty, pos, aft, g⟩ :: rest) n e D m := by
  obtain ⟨ad, rfl, hb, hc⟩ := hS.addr (by omega)
  obtain ⟨rt, te, r, hrt, hk, hr, rfl⟩ := Ty.sliceOf_spec hs
  obtain ⟨e', hp, hk'⟩ := h ad rfl hb (fun i u hu => by rw [add_add]; exact hc _ u hu)
  exact RL.indexAddr hT hrt hk hr hg hx hy hj hlt hp hk'

/-! ### Bytes and texts -/
theorem u8s_length (l : List UInt8) : (u8s l).length = l.length := by simp [u8s]
theorem u8s_append (a b : List UInt8) : u8s (a ++ b) = u8s a ++ u8s b := by simp [u8s]
theorem u8s_drop (l : List UInt8) (k : Nat) : u8s (l.drop k) = (u8s l).drop k := by simp [u8s]
theorem u8s_take (l : List UInt8) (k : Nat) : u8s (l.take k) = (u8s l).take k := by simp [u8s]
theorem u8s_one (l : List UInt8) : ∀ u ∈ u8s l, u.oneCell' = true := by intro u hu; obtain ⟨b, _, rfl⟩ := List.mem_map.1 hu; rfl
theorem u8s_get (l : List UInt8) (k : Nat) (h : k < l.length) : (u8s l)[k]? = some (.int .u8 (l[k]).toNat) := by simp [u8s, h]
/-- A slice of bytes. -/
def Bs (m : World) (M : List Nat) (v : Value) (l : List UInt8) : Prop := Sl m M 1 v (u8s l)
theorem Bs.shape {l : List UInt8} (h : Bs m M v l) : ∃ A c, v = .slice A l.length c ∧ l.length ≤ c ∧ c ≤ maxLen := Sl.shape h (by simp [u8s_length]) (by omega)
def str (l : List UInt8) : ByteArray := ⟨l.toArray⟩
theorem str_toList (l : List UInt8) : (str l).toList = l := ByteArray.toList_mk l
theorem push_bytes (l : List UInt8) : ∀ (acc : ByteArray), (l.map fun b => ((b.toNat : Nat) : Int)).foldl (fun r n => r.push (UInt8.ofNat n.toNat)) acc = ⟨acc.data ++ l.toArray⟩ := by
  induction l with
  | nil => intro acc; simp
  | cons b l ih =>
    intro acc
    simp only [List.map_cons, List.foldl_cons]
    rw [ih]
    have : (acc.push (UInt8.ofNat ((b.toNat : Nat) : Int).toNat)).data = acc.data.push b := by
      show acc.data.push _ = _
      simp
    rw [this]
    congr 1
    apply Array.ext'
    simp
/-- 's[k]' of bytes: the address, and the load behind it. -/
theorem RL.byteAt (hT : T.Ok P) {l : List UInt8} {c : Nat} (hB : Bs m M (.slice A l.length c) l) {k : Nat} {j : Int} {kk : IntKind} (hj : j = (k : Int)) (hlt : k < l.length) {d1 d2 : Tmp} {t2 ty2 : TypeId} {pos2 : String} {aft2 : Array Edge} (hs : T.sliceOf t = some 1) (ht : T.plain t2 = true)
    (hx : e.ev x = some (.slice A l.length c)) (hy : e.ev y = some (.int kk j)) (hd1 : Nat.blt d1 n = true) (hd2 : Nat.blt d2 n = true)
    (h : ∀ p, RL P ops Q rest n ((d2, .int .u8 (l[k]).toNat) :: (d1, .pointer (some p)) :: e) D m) :
    RL P ops Q (⟨some d1, .indexAddr t x y, ty, pos, aft, none⟩ :: ⟨some d2, .load t2 (.tmp d1), ty2, pos2, aft2, none⟩ :: rest) n e D m := by
  refine RL.index hT hB hj hlt hs rfl hx hy (fun ad _ _ hcell => ⟨(d1, .pointer (some (ad.add (k * 1)))) :: e, by simp [putE, hd1], ?_⟩)
  have hx := hcell 0 (.int .u8 (l[k]).toNat) (by simpa using u8s_get l k hlt)
  rw [add_add] at hx
  exact RL.load hT (p := ad.add (k * 1)) rfl (by simp [Env.ev, Env.get]) ht hx (e' := (d2, .int .u8 (l[k]).toNat) :: (d1, .pointer (some (ad.add (k * 1)))) :: e) (by simp [putE, hd2]) (h _)
theorem RL.bytesString (hT : T.Ok P) {l : List UInt8} (hS : Bs m M v l) (hk : (T.row tx).map (·.k) = some .str) {te : TypeId} (hk2 : (T.row t).map (·.k) = some (.sli te)) (hk3 : (T.row te).map (·.k) = some (.int .u8))
    (hg : gd ops e ⟨d, .convert t tx x, ty, pos, aft, g⟩ = some true) (hx : e.ev x = some v) (hp : putE n d (.string (str l)) e = some e') (h : RL P ops Q rest n e' D m) : RL P ops Q (⟨d, .convert t tx x, ty, pos, aft, g⟩ :: rest) n e D m := by
  obtain ⟨r1, hr1, hr1'⟩ := Option.map_eq_some_iff.1 hk
  obtain ⟨r2, hr2, hr2'⟩ := Option.map_eq_some_iff.1 hk2
  obtain ⟨r3, hr3, hr3'⟩ := Option.map_eq_some_iff.1 hk3
  have h1 := (hT.row hr1).k; rw [hr1'] at h1
  have h2 := (hT.row hr2).k; rw [hr2'] at h2
  have h3 := (hT.row hr3).k; rw [hr3'] at h3
  obtain ⟨A, c, rfl, hlc, _⟩ := hS.shape
  refine RL.value _ hg (fun a w hf hs => ?_) hp h
  have key : (Conv.bytesToString (.slice A l.length c)).run P w = .ok (.string (str l)) w := by
    cases A with
    | none =>
      have : l = [] := by
        rcases Nat.eq_zero_or_pos l.length with h0 | h0
        · exact List.eq_nil_of_length_eq_zero h0
        · obtain ⟨ad, had, _⟩ := Sl.addr hS h0; cases had
      subst this
      simp [Conv.bytesToString]; rfl
    | some ad =>
      have hload : (loadCells ad l.length).run P w = .ok ((l.map fun b => ((b.toNat : Nat) : Int)).map (Value.int .u8)).toArray w := by
        have h4 := run_loadCells_list (P := P) w ad (u8s l) (fun j u hu => by
          have h0 : j < l.length := by have := (List.getElem?_eq_some_iff.1 hu).1; simpa [u8s] using this
          obtain ⟨ad', had, _, hc⟩ := Sl.addr hS (by omega)
          injection had with had
          subst had
          exact (hs.cell _).trans (hc j u hu))
        rw [u8s_length] at h4
        rw [h4]
        simp [u8s]
      have h5 := run_bytesToString w ad l.length c _ hload
      rw [push_bytes] at h5
      rw [h5]
      congr 2
      show (ByteArray.mk _) = _
      unfold str
      congr 1
      apply Array.ext'
      simp
  simp [execOp, convert, hf.ev hx, run_underlying h1, run_underlying h2, run_underlying h3, key]
/-- An empty slice literal. -/
theorem RL.buildSlice0 (hT : T.Ok P) {s : Nat} (hs : T.sliceOf t = some s) (hg : gd ops e ⟨d, .buildSlice t 0 #[], ty, pos, aft, g⟩ = some true)
    (h : ∀ b m', b = m.heap.size → Ext m [] m' → ∃ e', putE n d (.slice (some ⟨b, 0, none⟩) 0 0) e = some e' ∧ RL P ops Q rest n e' D m') :
    RL P ops Q (⟨d, .buildSlice t 0 #[], ty, pos, aft, g⟩ :: rest) n e D m := by
  obtain ⟨te, hu, hsz⟩ := sizeOf_run hT hs m
  obtain ⟨e', hp, hk⟩ := h m.heap.size _ rfl ((Chg.alloc m (.cells #[] te)).new (Nat.le_refl _))
  refine RL.valueW _ _ hg (fun a w hf hw => ⟨_, ?_, hw.alloc _⟩) hp hk
  obtain ⟨te', hu', hsz'⟩ := sizeOf_run hT hs w
  rw [hu] at hu'
  injection hu' with hu'
  injection hu' with hu'
  subst hu'
  simp [execOp, Instr.buildSlice, run_underlying hu, hsz', Instr.fill, newRow, hw.size]
  congr 2
  apply Array.ext'
  simp
end
end Go.Ev
