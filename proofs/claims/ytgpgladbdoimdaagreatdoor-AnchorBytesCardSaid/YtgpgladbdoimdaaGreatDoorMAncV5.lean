/- Texts that belong together. -/
import Derived.Test.YtgpgladbdoimdaaGreatDoorMAncV4
import Derived.LaidEqlPtr
import Derived.Laws.IdiomRangeMap
section
namespace Go.Proofs.YtgpgladbdoimdaaGreatDoor
open Go.ChangeShapes Go.WideShapes Go.ChangeAt Go.RowKit Go.Ev Go.Ids Go.SeqP
set_option maxRecDepth 20000
set_option maxHeartbeats 1000000
theorem eqI (x y : Idn) (w : World) : (Op.equal 30 (iV x) (iV y)).run Tryz.prog w = .ok (decide (x = y)) w := by
  have hS : Tryz.prog.underlying 30 = some (.struct (Tryz.prog.fieldsOf 30)) := by kernel_rfl
  have hp : Tryz.prog.stoodInHeld 30 = false := by kernel_rfl
  have u37 := Tryz.underlying28
  have a37 := Tryz.isAgg28
  have z37 := Tryz.sizeOf28
  simp only [iV, iC, Op.equal, Op.maxDepth]
  rw [show (10000 : Nat) = 9999 + 1 from rfl, run_equalIn_agg w 9999 30 _ _ hS hp]
  simp only [Program.fieldsOf, Tryz.underlying30]
  go_simp
  obtain ⟨a, b⟩ := x
  obtain ⟨a', b'⟩ := y
  by_cases h1 : a = a' <;> by_cases h2 : b = b' <;> simp [h1, h2, Int.natCast_inj]
theorem eqI_eql (x y : Idn) (w : World) : (binOp .eql 30 (iV x) (iV y)).run Tryz.prog w = .ok (.bool (decide (x = y))) w := by
  have h := eqI x y w
  simp only [iV] at h ⊢
  rw [run_eql_struct]
  simp only [Op.equal, Op.maxDepth] at h
  rw [h]; rfl
theorem eqI_neq (x y : Idn) (w : World) : (binOp .neq 30 (iV x) (iV y)).run Tryz.prog w = .ok (.bool !(decide (x = y))) w := by
  have h := eqI x y w
  simp only [iV] at h ⊢
  rw [run_neq_struct]
  simp only [Op.equal, Op.maxDepth] at h
  rw [h]; rfl
theorem eqI_guard (op : BinOp) (x y : Idn) (ox oy : Operand) (w : World) : (eqGuard op 30 ox oy (iV x) (iV y)).run Tryz.prog w = .ok () w := run_eqGuard_agg w op 30 ox oy _ _ (by kernel_rfl)
theorem idK : KeyT Tryz.prog 30 iV where
  desc := ⟨_, Tryz.underlying30, .inr fun _ _ => rfl⟩
  eq := fun a b w _ _ => eqI a b w
  chk := fun z a w => by
    have u37 := Tryz.underlying28
    have uI := Tryz.underlying30
    have a37 := Tryz.isAgg28
    have z37 := Tryz.sizeOf28
    rw [show (10000 : Nat) = 9998 + 1 + 1 from rfl]
    unfold Instr.checkKey
    simp only [Sem.run_bind, run_underlying uI, Result.andThen_ok, iV, iC]
    have hc : ∀ v : Nat, (Instr.checkKey z 9999 28 (.int .u64 v)).run Tryz.prog w = .ok () w := fun v => by
      rw [show (9999 : Nat) = 9998 + 1 from rfl]
      unfold Instr.checkKey
      simp only [Sem.run_bind, run_underlying u37, Result.andThen_ok, Sem.run_pure]
    rw [← Array.forIn_toList]
    simp [part, a37, z37, hc]
  bits := fun a => by simp [Instr.sameBits, iV, iC]
theorem none_s (x : Idn) : Pur Tryz.prog 259 [iV x] [] (.bool (decide (x = ⟨0, 0⟩))) := by
  intro m0 X hS
  refine FnE.enter ⟨_, Tryz.func259, by kernel_rfl, by kernel_rfl⟩ Tryz.func259 rfl rfl ?_
  refine go ?_
  refine RL.boxS hS rfl rfl rfl ?_; (try clear hS); intro b1 m hS; refine ⟨_, rfl, ?_⟩
  refine go ?_
  refine RL.binOp (eqI_eql x ⟨0, 0⟩) (eqI_guard _ _ _ _ _) rfl rfl rfl rfl ?_
  refine go ?_
  exact QN.ret1 rfl rfl ⟨_, rfl, [], ⟨rfl, rfl⟩, hS.drop⟩
def uC (u : Un) : List Value := [.int .u64 u.id.c, .int .u64 u.id.k, .int .u64 u.l.c, .int .u64 u.l.k, .int .u64 u.r.c, .int .u64 u.r.k]
def uV (u : Un) : Value := .agg (uC u).toArray
def pA (b : Nat) : Value := .pointer (some ⟨b, 0, none⟩)
def pO (o : Option Nat) : Value := .pointer (o.map fun b => ⟨b, 0, none⟩)
def nC (u : Un) (p : Option Nat) (lv rv : Value) (sz : Nat) : List Value := [.int .u64 u.id.c, .int .u64 u.id.k, .int .u64 u.l.c, .int .u64 u.l.k, .int .u64 u.r.c, .int .u64 u.r.k, pO p, lv, rv, .int .i64 sz]
structure Rw where
  S : List Nat
  v : Value
  xs : List Nat
def Rw.A (r : Rw) : Asn := ownA r.S 176 1 r.v r.xs.length (r.xs.map pA)
structure Nd where
  a : Nat
  u : Un
  p : Option Nat
  sz : Nat
  rl : Rw
  rr : Rw
def Nd.A (d : Nd) : Asn := blkA d.a 178 (nC d.u d.p d.rl.v d.rr.v d.sz)
def ndL (N : List Nd) : List Asn := N.flatMap fun d => [d.A, d.rl.A, d.rr.A]
structure Sq extends Us where
  ad : List Nat
  tr : Bool
namespace Sq
def a (q : Sq) (i : Nat) : Nat := q.ad.getD i 0
def allE (q : Sq) : List (Idn × Value) := (q.us.zip q.ad).map fun p => (p.1.id, pA p.2)
end Sq
structure Lay (q : Sq) (N : List Nd) : Prop where
  ad : N.map (·.a) = q.ad
  us : N.map (·.u) = q.us
  at_ : q.tr = true → ∀ i p s a b, Fo.At q.F none false i p s a b → ∃ d, N[i]? = some d ∧ d.p = p.map q.a ∧ d.sz = a.sz + b.sz + 1 ∧ d.rl.xs = a.roots.map q.a ∧ d.rr.xs = b.roots.map q.a
def AtOk (q : Sq) (at_ : List (Idn × Value)) : Prop := ∀ k i : Nat, q.F.flat[k]? = some i → mget at_ (q.u i).id = some (.int .i64 k)
def seqL (s ra rt : Nat) (fr : Bool) (al at_ : List (Idn × Value)) (ord ro : Rw) (N : List Nd) : List Asn :=
  blkA s 175 [.map (some ra), ord.v, ro.v, .map (some rt), .bool fr] :: mapA ra iV al :: mapA rt iV at_ :: ord.A :: ro.A :: ndL N
structure SOk (q : Sq) (fr : Bool) (at_ : List (Idn × Value)) (ord ro : Rw) (N : List Nd) : Prop where
  o : ord.xs = q.F.flat.map q.a
  r : q.tr = true → ro.xs = q.F.roots.map q.a
  l : Lay q N
  ok : q.Ok
  few : q.us.length ≤ 1000000
  f : fr = true → AtOk q at_
def seqPr (s : Nat) (q : Sq) (L : List Asn) : Prop := ∃ ra rt fr at_ ord ro N, L = seqL s ra rt fr q.allE at_ ord ro N ∧ SOk q fr at_ ord ro N
abbrev seqA (S : List Nat) (s : Nat) (q : Sq) : Asn := exA S (seqPr s q)
abbrev sqH (q : Sq) (s ra rt : Nat) (fr : Bool) (at_ : List (Idn × Value)) (ord ro : Rw) (N : List Nd) (F : List Asn) : List Asn := blkA s 175 [.map (some ra), ord.v, ro.v, .map (some rt), .bool fr] :: mapA ra iV q.allE :: mapA rt iV at_ :: ord.A :: ro.A :: (ndL N ++ F)
theorem seq_open {m0 m : World} {M0 X : List Nat} {F : List Asn} {S : List Nat} {s : Nat} {q : Sq} (h : Tr m0 M0 X m (seqA S s q :: F)) : ∃ ra rt fr at_ ord ro N, SOk q fr at_ ord ro N ∧
    Tr m0 M0 X m (sqH q s ra rt fr at_ ord ro N F) := by
  obtain ⟨L, ⟨ra, rt, fr, at_, ord, ro, N, rfl, k⟩, hS⟩ := h.open
  simp only [seqL, List.cons_append] at hS
  exact ⟨ra, rt, fr, at_, ord, ro, N, k, hS⟩
theorem seq_close {m0 m : World} {M0 X : List Nat} {F : List Asn} {s ra rt : Nat} {q : Sq} {fr : Bool} {at_ : List (Idn × Value)} {ord ro : Rw} {N : List Nd} (k : SOk q fr at_ ord ro N)
    (h : Tr m0 M0 X m (sqH q s ra rt fr at_ ord ro N F)) : ∃ S, Tr m0 M0 X m (seqA S s q :: F) :=
  ⟨_, Tr.close (L := seqL s ra rt fr q.allE at_ ord ro N) (by simpa only [seqL, List.cons_append] using h) ⟨ra, rt, fr, at_, ord, ro, N, rfl, k⟩⟩
section
variable {q : Sq} {N : List Nd}
theorem mem_ndL {d : Nd} (h : d ∈ N) : d.A ∈ ndL N ∧ d.rl.A ∈ ndL N ∧ d.rr.A ∈ ndL N :=
  ⟨List.mem_flatMap.2 ⟨d, h, by simp⟩, List.mem_flatMap.2 ⟨d, h, by simp⟩, List.mem_flatMap.2 ⟨d, h, by simp⟩⟩
theorem allE_get_aux (id : Idn) : ∀ (us : List Un) (ad : List Nat), us.length = ad.length → (mget ((us.zip ad).map fun p => (p.1.id, pA p.2)) id).getD (.pointer none) = pO ((us.findIdx? fun u => decide (u.id = id)).map fun i => ad.getD i 0)
  | [], [], _ => rfl
  | u :: us, a :: ad, h => by
    have ih := allE_get_aux id us ad (by simpa using h)
    simp only [List.zip_cons_cons, List.map_cons, mget, List.findIdx?_cons]
    by_cases hu : u.id = id
    · simp [hu, pO, pA]
    · simp [hu, ih, Option.map_map, Function.comp_def]
theorem SOk.adl {fr : Bool} {at_ : List (Idn × Value)} {ord ro : Rw} (h : SOk q fr at_ ord ro N) : q.ad.length = q.us.length := by rw [← h.l.ad, ← h.l.us, List.length_map, List.length_map]
theorem SOk.get {fr : Bool} {at_ : List (Idn × Value)} {ord ro : Rw} (h : SOk q fr at_ ord ro N) (id : Idn) : (mget q.allE id).getD (.pointer none) = pO ((q.idx id).map q.a) := allE_get_aux id q.us q.ad h.adl.symm
theorem nd_perm {i : Nat} {d : Nd} (h : N[i]? = some d) : N.Perm (d :: N.eraseIdx i) := by
  obtain ⟨hlt, hg⟩ := List.getElem?_eq_some_iff.1 h
  have h1 : N = N.take i ++ d :: N.drop (i + 1) := by
    conv => lhs; rw [← List.take_append_drop i N, List.drop_eq_getElem_cons hlt, hg]
  rw [List.eraseIdx_eq_take_drop_succ]
  conv => lhs; rw [h1]
  exact List.perm_middle
theorem ndL_focus {i : Nat} {d : Nd} (h : N[i]? = some d) : (ndL N).Perm (d.A :: d.rl.A :: d.rr.A :: ndL (N.eraseIdx i)) :=
  (nd_perm h).flatMap_right (f := fun d : Nd => [d.A, d.rl.A, d.rr.A])
theorem ndL_set {i : Nat} {d : Nd} (d' : Nd) (h : N[i]? = some d) : (d'.A :: d'.rl.A :: d'.rr.A :: ndL (N.eraseIdx i)).Perm (ndL (N.set i d')) := by
  have h1 : (N.set i d')[i]? = some d' := by
    have := (List.getElem?_eq_some_iff.1 h).1
    simp [this]
  have := ndL_focus h1
  rw [List.eraseIdx_set_eq] at this
  exact this.symm
theorem Rep.app {A B : Asn} {H H' : List Asn} (h : Rep A B H H') (F : List Asn) : Rep A B (H ++ F) (H' ++ F) := by
  induction h with
  | head => exact Rep.head
  | tail _ ih => exact Rep.tail ih
theorem rep_nd {d d' : Nd} (hl : d'.rl = d.rl) (hr : d'.rr = d.rr) : ∀ {N : List Nd} {i : Nat}, N[i]? = some d → Rep d.A d'.A (ndL N) (ndL (N.set i d'))
  | [], i, h => by simp at h
  | e :: N, 0, h => by
    simp only [List.getElem?_cons_zero, Option.some.injEq] at h
    subst h
    show Rep e.A d'.A (e.A :: e.rl.A :: e.rr.A :: ndL N) (d'.A :: d'.rl.A :: d'.rr.A :: ndL N)
    rw [hl, hr]
    exact Rep.head
  | e :: N, i + 1, h => .tail (.tail (.tail (rep_nd hl hr (N := N) (i := i) (by simpa using h))))
theorem Rw.shape {m0 m : World} {M0 X : List Nat} {H : List Asn} {r : Rw} (hS : Tr m0 M0 X m H) (hm : r.A ∈ H) : ∃ A c, r.v = .slice A r.xs.length c ∧ r.xs.length ≤ c :=
  Ev.Own.shape (show Ev.Own m r.S 176 1 r.v r.xs.length (r.xs.map pA) from hS.mem hm)
theorem Rw.sl {m0 m : World} {M0 X : List Nat} {H : List Asn} {r : Rw} (hS : Tr m0 M0 X m H) (hm : r.A ∈ H) : Sl m [] 1 r.v (r.xs.map pA) := hS.ownSl (show ownA r.S 176 1 r.v r.xs.length (r.xs.map pA) ∈ H from hm)
theorem Lay.get (h : Lay q N) {i : Nat} (hi : i < q.us.length) : ∃ d, N[i]? = some d ∧ d ∈ N ∧ d.a = q.a i ∧ d.u = q.u i := by
  have hl : N.length = q.us.length := by rw [← h.us, List.length_map]
  have hlt : i < N.length := by omega
  refine ⟨N[i], List.getElem?_eq_getElem hlt, List.getElem_mem hlt, ?_, ?_⟩
  · simp [Sq.a, List.getD_eq_getElem?_getD, ← h.ad, List.getElem?_map, List.getElem?_eq_getElem hlt]
  · simp [Us.u, List.getD_eq_getElem?_getD, ← h.us, List.getElem?_map, List.getElem?_eq_getElem hlt]
end
theorem all_s (s : Nat) : DoS Tryz.prog 43 [pA s] [] (fun v H => ∃ bx, v = .func (.func 90) #[] #[pA bx] ∧ H = [blkA bx 105 [pA s]]) := by
  intro m0 X hS
  refine FnE.enter ⟨_, Tryz.func43, by kernel_rfl, by kernel_rfl⟩ Tryz.func43 rfl rfl ?_
  refine go ?_
  refine RL.boxS hS rfl rfl rfl ?_; (try clear hS); intro b1 m hS; refine ⟨_, rfl, ?_⟩
  refine go ?_
  exact QN.ret1 rfl rfl ⟨_, rfl, _, ⟨b1, rfl, rfl⟩, hS⟩
structure SView (q : Sq) (bx s : Nat) (c0 c2 c3 c4 : Value) (ord : Rw) (H : List Asn) : Prop where
  bx : blkA bx 105 [pA s] ∈ H
  s : blkA s 175 [c0, ord.v, c2, c3, c4] ∈ H
  o : ord.A ∈ H
  ox : ord.xs = q.F.flat.map q.a
  n : ∀ i ∈ q.F.flat, ∃ p lv rv sz, blkA (q.a i) 178 (nC (q.u i) p lv rv sz) ∈ H
theorem all1_t (q : Sq) (bx s : Nat) (c0 c2 c3 c4 : Value) (ord : Rw) (hb : q.F.flat.length ≤ 1000000) :
    ItT Tryz.prog 90 [pA bx] (fun x : Nat × Un => [.int .i64 x.1, uV x.2]) (fun pre x => x.1 = pre.length ∧ q.units[pre.length]? = some x.2) (fun xs => xs.length = q.units.length) (fun _ H => SView q bx s c0 c2 c3 c4 ord H) := by
  intro l I Ix m0 m M0 X H h0 hS hneed hy
  have hV := hneed [] H h0
  have hn : ord.xs.length = q.units.length := by rw [hV.ox, List.length_map, Us.units, List.length_map]
  obtain ⟨A, c, hv, hc⟩ := Rw.shape hS hV.o
  refine FnE.enter ⟨_, Tryz.func90, by kernel_rfl, by kernel_rfl⟩ Tryz.func90 rfl rfl ?_
  refine go ?_
  refine RL.loadM T_ok hS rfl rfl rfl hV.bx rfl rfl ?_
  refine go ?_
  refine RL.loadM T_ok hS rfl rfl rfl hV.s rfl rfl ?_
  rw [hv]
  refine go ?_
  refine (WP.loop (X := List (Nat × Un) × List Asn) (fun x => [(0, .func (.yield l) #[] #[]), (1, pA bx), (8, .slice A ord.xs.length c), (9, .int .i64 ord.xs.length), (10, .int .i64 x.1.length)])
    (fun x m' => I x.1 x.2 ∧ Tr m0 M0 X m' x.2 ∧ x.1.length ≤ ord.xs.length) (fun x => ord.xs.length - x.1.length) ([], H)
    (Sub.C1 rfl (Sub.C1 rfl (Sub.C1 rfl (Sub.C1 rfl (Sub.C1 rfl Sub.nil))))) ⟨h0, hS, Nat.zero_le _⟩ ?_)
  clear hS h0 hV
  rintro ⟨pre, H1⟩ m1 ⟨hI, hS, hle⟩
  dsimp only at hI hS hle ⊢
  have hV := hneed pre H1 hI
  refine go ?_
  refine WP.cond rfl (fun hc => ?_) (fun hc => ?_)
  · have hlt : pre.length < ord.xs.length := by have := of_decide_eq_true hc; omega
    have hlq : pre.length < q.F.flat.length := by have := congrArg List.length hV.ox; simp only [List.length_map] at this; omega
    obtain ⟨i, hi⟩ : ∃ i, q.F.flat[pre.length]? = some i := ⟨_, List.getElem?_eq_getElem hlq⟩
    obtain ⟨p, lv, rv, sz, hN⟩ := hV.n i (List.mem_of_getElem? hi)
    obtain ⟨g, c', hv', hSo, hcc, _⟩ := hS.ownAt (show ownA ord.S 176 1 ord.v ord.xs.length (ord.xs.map pA) ∈ H1 from hV.o) (by omega)
    have hsl := Rw.sl hS hV.o
    rw [hv] at hv' hsl
    cases hv'
    have hx : (ord.xs.map pA)[pre.length * 1]? = some (pA (q.a i)) := by rw [Nat.mul_one, hV.ox, List.map_map, List.getElem?_map, hi]; rfl
    refine go ?_
    refine RL.ldE T_ok hsl hx rfl rfl rfl rfl rfl rfl ?_
    refine go ?_
    refine RL.yield rfl rfl rfl (hy pre (pre.length, q.u i) [] m1 H1 hI ⟨rfl, by simp [Us.units, hi]⟩ hS) ?_ ?_ ?_
    · rintro v m2 ⟨H2, hS2, hr⟩
      clear hS
      rcases hr with ⟨he, hI2⟩ | ⟨he, hI2⟩ <;> cases he
      · refine ⟨_, rfl, ?_⟩
        have hS := hS2
        refine go ?_
        refine QN.round (pre ++ [(pre.length, q.u i)], H2) ?_ ⟨hI2, hS, by simp; omega⟩ (by simp; omega)
        refine Sub.C1 rfl (Sub.C1 rfl (Sub.C1 rfl (Sub.C1 rfl (Sub.C1 ?_ Sub.nil))))
        show some (Value.int .i64 (IntKind.i64.wrap ((pre.length : Int) + 1))) = some (.int .i64 ((pre ++ [(pre.length, q.u i)]).length : Nat))
        rw [wrap_i64_in _ (by omega) (by omega)]; simp
      · refine ⟨_, rfl, ?_⟩
        have hS := hS2
        refine go ?_
        exact QN.ret0 rfl ⟨_, rfl, .inr ⟨_, H2, hI2, hS2⟩⟩
    · rintro ch m2 ⟨H2, _, ⟨he, _⟩ | ⟨he, _⟩⟩ <;> cases he
    · rintro m2 ⟨H2, _, ⟨he, _⟩ | ⟨he, _⟩⟩ <;> cases he
  · refine WP.exit ?_
    (with_reducible repeat (first | refine QN.tx ?_ | refine QN.bx ?_ | refine QN.B1 ?_))
    have hge : pre.length = ord.xs.length := by have := of_decide_eq_false hc; omega
    exact QN.end0 rfl ⟨_, rfl, .inl ⟨pre, H1, by omega, hI, hS⟩⟩
end Go.Proofs.YtgpgladbdoimdaaGreatDoor
end
section
namespace Go.Proofs.YtgpgladbdoimdaaGreatDoor
open Go.ChangeShapes Go.WideShapes Go.ChangeAt Go.RowKit Go.Ev Go.Ids Go.SeqP
set_option maxRecDepth 20000
set_option maxHeartbeats 1000000
theorem atOk_step {q : Sq} (h : q.Ok) {at_ : List (Idn × Value)} {n i : Nat} (hi : q.F.flat[n]? = some i) (ha : ∀ k j : Nat, k < n → q.F.flat[k]? = some j → mget at_ (q.u j).id = some (.int .i64 k)) :
    ∀ k j : Nat, k < n + 1 → q.F.flat[k]? = some j → mget (mset at_ (q.u i).id (.int .i64 n)) (q.u j).id = some (.int .i64 k) := by
  intro k j hk hj
  rw [mget_mset]
  have hi' := (h.mem i).1 (List.mem_of_getElem? hi)
  have hj' := (h.mem j).1 (List.mem_of_getElem? hj)
  by_cases e : k = n
  · subst e
    rw [hi] at hj
    cases hj
    rw [if_pos rfl]
  · have hne : (q.u i).id ≠ (q.u j).id := fun hh => e (by
      have e1 := h.idx_of hi'
      rw [hh, h.idx_of hj'] at e1
      cases e1
      exact (List.getElem?_inj (List.getElem?_eq_some_iff.1 hj).1 h.nd).1 (hj.trans hi.symm))
    rw [if_neg hne]
    exact ha k j (by omega) hj
theorem SOk.view {q : Sq} {fr : Bool} {at_ : List (Idn × Value)} {ord ro : Rw} {N : List Nd} (k : SOk q fr at_ ord ro N) {bx s : Nat} {c0 c2 c3 c4 : Value} {H : List Asn} (h1 : blkA bx 105 [pA s] ∈ H) (h2 : blkA s 175 [c0, ord.v, c2, c3, c4] ∈ H) (h3 : ord.A ∈ H) (h4 : ∀ A ∈ ndL N, A ∈ H) : SView q bx s c0 c2 c3 c4 ord H where
  bx := h1
  s := h2
  o := h3
  ox := k.o
  n := fun i hi => by
    obtain ⟨d, h5, h6, h7, h8⟩ := k.l.get ((k.ok.mem i).1 hi)
    exact ⟨d.p, d.rl.v, d.rr.v, d.sz, h4 _ (h7 ▸ h8 ▸ (mem_ndL h6).1)⟩
theorem _root_.Go.Ev.Tr.mid {m0 m : World} {M0 X : List Nat} {K G L : List Asn} (h : Tr m0 M0 X m (K ++ (G ++ L))) : Tr m0 M0 X m (K ++ (L ++ G)) := h.perm (List.perm_append_comm.append_left K)
theorem find_s (S : List Nat) (s : Nat) (q : Sq) (id : Idn) : DoS Tryz.prog 88 [pA s, iV id] [seqA S s q] (fun v H => v = .int .i64 (q.find id) ∧ ∃ S', H = [seqA S' s q]) := by
  intro m0 X hS
  obtain ⟨ra, rt, fr, at_, ord, ro, N, k, hS⟩ := seq_open hS
  refine FnE.enterM ⟨_, Tryz.func88, by kernel_rfl, by kernel_rfl⟩ Tryz.func88 rfl rfl ?_
  refine go ?_
  refine RL.boxS hS rfl rfl rfl ?_; (try clear hS); intro b1 m hS; refine ⟨_, rfl, ?_⟩
  refine go ?_
  refine RL.boxS hS rfl rfl rfl ?_; (try clear hS); intro b2 m hS; refine ⟨_, rfl, ?_⟩
  refine go ?_
  have hg := k.get id
  cases hi : q.idx id with
  | none =>
    rw [hi] at hg
    refine RH.lookup T_ok PanicOk.calm idK rfl (by kernel_rfl) rfl rfl rfl rfl rfl rfl rfl (by with_reducible repeat (first | exact zS .. | apply zO)) hg rfl ?_
    refine go ?_
    have he : q.find id = -1 := by simp [Us.find, hi]
    obtain ⟨S', hS'⟩ := seq_close k hS.tail.tail
    exact QN.leaveM0 (.inl rfl) (Res.tmp rfl rfl) ⟨_, rfl, _, ⟨he ▸ rfl, S', rfl⟩, hS'⟩
  | some i =>
    rw [hi] at hg
    have hlt := (Us.idx_some hi).1
    have he : q.find id = q.place i := by simp [Us.find, hi]
    refine RH.lookup T_ok PanicOk.calm idK rfl (by kernel_rfl) rfl rfl rfl rfl rfl rfl rfl (by with_reducible repeat (first | exact zS .. | apply zO)) hg rfl ?_
    refine go ?_
    cases fr with
    | true =>
      have hat := k.f rfl _ _ (k.ok.place_get hlt)
      rw [(Us.idx_some hi).2] at hat
      refine go ?_
      refine RH.lookup (v := .int .i64 (q.place i)) T_ok PanicOk.calm idK rfl (by kernel_rfl) rfl rfl rfl rfl rfl rfl rfl (by with_reducible repeat (first | exact zS .. | apply zO)) (by rw [hat]; rfl) rfl ?_
      refine go ?_
      obtain ⟨S', hS'⟩ := seq_close k hS.tail.tail
      exact QN.leaveM0 (.inl rfl) (Res.tmp rfl rfl) ⟨_, rfl, _, ⟨he ▸ rfl, S', rfl⟩, hS'⟩
    | false =>
      refine go ?_
      refine RL.callM (fi := []) (ca := []) hS (all_s s) rfl rfl rfl rfl Sels.nil ?_
      (try clear hS); rintro _ m3 _ ⟨bx, rfl, rfl⟩ hS; simp only [zC, zN] at hS; refine ⟨_, rfl, ?_⟩
      refine go ?_
      have hbx : q.F.flat.length ≤ 1000000 := by rw [k.ok.flen]; exact k.few
      refine WP.rangeT (β := Nat) (fun x : Nat × Un => [.int .i64 x.1, uV x.2]) rfl (all1_t q bx s (.map (some ra)) ro.v (.map (some rt)) (.bool false) ord hbx) ⟨_, Tryz.func90, by kernel_rfl, by kernel_rfl⟩ hS
        (fun pre H => ∃ at', H = blkA bx 105 [pA s] :: blkA b2 30 (iC id) :: blkA b1 105 [pA s] :: sqH q s ra rt false at' ord ro N [] ∧
          ∀ k j : Nat, k < pre.length → q.F.flat[k]? = some j → mget at' (q.u j).id = some (.int .i64 k)) (fun _ _ _ => False) ⟨at_, rfl, fun _ _ h => (by simp at h)⟩ ?_ _ (fun _ => rfl) (fun _ => rfl)
        (fun x b => [(2, pA b1), (3, .pointer (some ⟨b2, 0, none⟩)), (4, .int .i64 0), (5, .int .i64 x.1), (6, pA b)]) (fun x b G => G = [blkA b 101 (uC x.2)]) ?_ ?_ ?_ ?_
      · rintro pre H C ⟨at', rfl, _⟩
        exact k.view (by simp) (by simp) (by simp) (fun A hA => by simp [hA])
      · intro l C pre x G m1 H1 _ _ hS
        refine go ?_
        refine RL.allocS T_ok rfl hS rfl rfl ?_; (try clear hS); intro b m hS; refine ⟨_, rfl, ?_⟩
        refine go ?_
        refine RL.ssM T_ok hS rfl rfl rfl rfl rfl (by rfl) (by rfl) (by with_reducible repeat (first | exact Rep.head | apply Rep.tail)) (by rfl) ?_; (try clear hS); intro m hS
        refine go ?_
        exact QN.asgT b _ (Sub.C1 rfl (Sub.C1 rfl (Sub.C1 rfl (Sub.C1 rfl (Sub.C1 rfl Sub.nil))))) hS rfl
      · rintro l C pre x b _ G m2 _ ⟨at', rfl, ha⟩ ⟨hx1, hx2⟩ rfl hS
        have hS := hS.mid
        simp only [zC, zN] at hS
        obtain ⟨i, hi1, hi2⟩ : ∃ i, q.F.flat[pre.length]? = some i ∧ q.u i = x.2 := by simpa [Us.units] using hx2
        refine go ?_
        refine RH.mapUpdateF (k := x.2.id) (v := .int .i64 x.1) T_ok hS idK rfl (by kernel_rfl) rfl rfl rfl rfl rfl rfl rfl (by with_reducible repeat (first | exact zS .. | apply zO)) (by with_reducible repeat (first | exact Rep.head | apply Rep.tail)) rfl (by kernel_rfl) ?_
        intro m hS
        refine QN.calm ?_
        (with_reducible repeat (first | refine QN.B1 ?_ | refine QN.N1 ?_))
        refine QN.roundT (hS.tail.perm (List.perm_append_comm (l₁ := C :: blkA bx 105 [pA s] :: blkA b2 30 (iC id) :: blkA b1 105 [pA s] :: sqH q s ra rt false (mset at' x.2.id (.int .i64 x.1)) ord ro N []))) ⟨mset at' x.2.id (.int .i64 x.1), rfl, ?_⟩
        · rw [List.length_append, ← hi2, hx1]; exact atOk_step k.ok hi1 ha
      · rintro B r xs m' _ hl ⟨at', rfl, ha⟩ hS
        refine go ?_
        refine RL.storeM T_ok hS rfl rfl rfl rfl (by rfl) (by rfl) (by with_reducible repeat (first | exact Rep.head | apply Rep.tail)) (by rfl) ?_; (try clear hS); intro m hS
        have hat := ha _ _ (by rw [hl, k.ok.ulen]; exact k.ok.place_lt hlt) (k.ok.place_get hlt)
        rw [(Us.idx_some hi).2] at hat
        refine go ?_
        refine RH.lookup (v := .int .i64 (q.place i)) T_ok PanicOk.calm idK rfl (by kernel_rfl) rfl rfl rfl rfl rfl rfl rfl (by with_reducible repeat (first | exact zS .. | apply zO)) (by rw [hat]; rfl) rfl ?_
        refine go ?_
        refine QN.leaveT (r := .int .i64 (q.place i)) (.inl rfl) hS (fun m' hS => ?_)
        obtain ⟨S', hS'⟩ := seq_close (fr := true) (at_ := at') ⟨k.o, k.r, k.l, k.ok, k.few, fun _ a j hj => ha a j (by have := (List.getElem?_eq_some_iff.1 hj).1; rw [k.ok.flen] at this; rw [hl, k.ok.ulen]; exact this) hj⟩ hS.tail.tail.tail
        exact ⟨Res.tmp rfl rfl, ⟨_, rfl, _, ⟨he ▸ rfl, S', rfl⟩, hS'⟩⟩
      · exact fun _ _ _ _ _ _ h _ => h.elim
end Go.Proofs.YtgpgladbdoimdaaGreatDoor
end
section
namespace Go.Ev
open Go.RowKit
section
variable {P : Program} {T : Ty} {ops : Array Oper} {Q : Exit → Act → World → Prop} {rest : List Oper} {n : Nat} {e e' : Env} {D : Fr} {m0 m : World} {M0 X : List Nat} {H : List Asn}
  {d : Option Tmp} {x y : Operand} {tp te yt ty : TypeId} {pos : String} {aft : Array Edge} {g : Option (Nat × Bool)} {r : Row}
theorem RL.eqPtr (hT : T.Ok P) (hS : Tr m0 M0 X m H) {b1 b2 : Nat} {t1 t2 : TypeId} {c1 c2 : List Value} {j : TypeInfo} (hg : gd ops e ⟨d, .binOp .eql tp x y yt, ty, pos, aft, g⟩ = some true)
    (hx : e.ev x = some (.pointer (some ⟨b1, 0, none⟩))) (hy : e.ev y = some (.pointer (some ⟨b2, 0, none⟩))) (hrt : T.row tp = some r) (hk : r.k = .ptr te) (hte : P.info? te = some j) (hz : (j.size == 0) = false) (h1 : blkA b1 t1 c1 ∈ H) (h2 : blkA b2 t2 c2 ∈ H)
    (hp : putE n d (.bool (decide (b1 = b2))) e = some e') (h : RL P ops Q rest n e' D m) : RL P ops Q (⟨d, .binOp .eql tp x y yt, ty, pos, aft, g⟩ :: rest) n e D m := by
  have hu := (hT.row hrt).k
  rw [hk] at hu
  refine RL.value (.bool (decide (b1 = b2))) hg (fun a w hf hs => ?_) hp h
  have hq : (eqGuard .eql tp x y (.pointer (some ⟨b1, 0, none⟩)) (.pointer (some ⟨b2, 0, none⟩))).run P w = .ok () w := by simp [eqGuard]
  have hr : (Go.binOp .eql tp (.pointer (some ⟨b1, 0, none⟩)) (.pointer (some ⟨b2, 0, none⟩))).run P w = .ok (.bool (decide (b1 = b2))) w := by
    by_cases hb : b1 = b2
    · subst hb
      rw [decide_eq_true rfl]
      exact run_eql_ptr_same w _ hu hte
    · rw [decide_eq_false hb]
      have g1 : Blk m b1 t1 c1 := hS.mem h1
      have g2 : Blk m b2 t2 c2 := hS.mem h2
      exact run_eql_ptr_other w hu hte (by simpa using hz) (fun hh => hb (congrArg Addr.block hh)) (by rw [hs.heap]; exact g1) (by rw [hs.heap]; exact g2)
  unfold execOp
  simp [hf.ev hx, hf.ev hy, hr, hq]
end
end Go.Ev
end
section
namespace Go.Proofs.YtgpgladbdoimdaaGreatDoor
open Go.ChangeShapes Go.WideShapes Go.ChangeAt Go.RowKit Go.Ev Go.Ids Go.SeqP
set_option maxRecDepth 20000
set_option maxHeartbeats 1000000
theorem _root_.Go.Ev.Pur.of {P : Program} {f : FuncId} {args : List Value} {u : Value} (h : ∀ m, FnR P f args m fun r m' => r = u ∧ Ext m [] m') : Pur P f args [] u :=
  fun m0 _ hS => (h m0).mono fun _ _ ⟨h1, h2⟩ => ⟨[], ⟨h1, rfl⟩, hS.calm h2⟩
theorem less_p (x y : Idn) : Pur Tryz.prog 184 [iV x, iV y] [] (.bool (x.lt y)) := Pur.of fun m => less_c m x y
theorem rightI_p (x : Idn) : Pur Tryz.prog 78 [iV x] [] (.bool x.right) := Pur.of fun m => rightI_c m x
def NodeAt (q : Sq) (E : List Asn) (b : Nat) (x : Un) : Prop := (∃ i, i < q.us.length ∧ b = q.a i ∧ x = q.u i) ∨ ∃ p lv rv sz, blkA b 178 (nC x p lv rv sz) ∈ E
theorem NodeAt.mem {q : Sq} {E : List Asn} {b : Nat} {x : Un} (h : NodeAt q E b x) {fr : Bool} {at_ : List (Idn × Value)} {ord ro : Rw} {N : List Nd} (k : SOk q fr at_ ord ro N) : ∃ p lv rv sz, blkA b 178 (nC x p lv rv sz) ∈ ndL N ++ E := by
  rcases h with ⟨i, hi, rfl, rfl⟩ | ⟨p, lv, rv, sz, h⟩
  · obtain ⟨d, h5, h6, h7, h8⟩ := k.l.get hi
    exact ⟨d.p, d.rl.v, d.rr.v, d.sz, List.mem_append_left _ (h7 ▸ h8 ▸ (mem_ndL h6).1)⟩
  · exact ⟨p, lv, rv, sz, List.mem_append_right _ h⟩
theorem far_s (S : List Nat) (s : Nat) (q : Sq) (E : List Asn) (b : Nat) (x : Un) (h : NodeAt q E b x) : DoS Tryz.prog 287 [pA s, pA b] (seqA S s q :: E) (fun v H => v = .int .i64 (q.far x) ∧ ∃ S', H = seqA S' s q :: E) := by
  intro m0 X hS
  obtain ⟨ra, rt, fr, at_, ord, ro, N, k, hS⟩ := seq_open hS
  obtain ⟨p, lv, rv, sz, hN⟩ := h.mem k
  obtain ⟨A, c, hv, hc⟩ := Rw.shape hS (r := ord) (by simp)
  have hn : ord.xs.length = q.us.length := by rw [k.o, List.length_map, k.ok.flen]
  refine FnE.enter ⟨_, Tryz.func287, by kernel_rfl, by kernel_rfl⟩ Tryz.func287 rfl rfl ?_
  refine go ?_
  by_cases hr : x.r = ⟨0, 0⟩
  · have hp := none_s x.r
    rw [decide_eq_true hr] at hp
    refine RL.callU (fi := []) (ca := []) hS hp rfl rfl rfl rfl (by repeat (first | with_reducible exact Sels.nil | apply Sels.ro (by with_reducible repeat (first | exact zS .. | apply zO)) (by rfl) | apply Sels.own (by with_reducible repeat (first | exact Sel.head | apply Sel.tail)))) rfl (fun m hS => ?_)
    refine go ?_
    rw [hv]
    refine go ?_
    obtain ⟨S', hS⟩ := seq_close k hS
    exact QN.ret1 rfl rfl ⟨_, rfl, _, ⟨by rw [Us.far, if_pos hr, hn], S', rfl⟩, hS⟩
  · have hp := none_s x.r
    rw [decide_eq_false hr] at hp
    refine RL.callU (fi := []) (ca := []) hS hp rfl rfl rfl rfl (by repeat (first | with_reducible exact Sels.nil | apply Sels.ro (by with_reducible repeat (first | exact zS .. | apply zO)) (by rfl) | apply Sels.own (by with_reducible repeat (first | exact Sel.head | apply Sel.tail)))) rfl (fun m hS => ?_)
    refine go ?_
    obtain ⟨S', hS⟩ := seq_close k hS
    refine RL.callM (fi := []) (ca := []) hS (find_s S' s q x.r) rfl rfl rfl rfl (by repeat (first | with_reducible exact Sels.nil | apply Sels.ro (by with_reducible repeat (first | exact zS .. | apply zO)) (by rfl) | apply Sels.own (by with_reducible repeat (first | exact Sel.head | apply Sel.tail)))) ?_
    rintro _ m _ ⟨rfl, S2, rfl⟩ hS
    refine ⟨_, rfl, ?_⟩
    refine go ?_
    exact QN.ret1 rfl rfl ⟨_, rfl, _, ⟨by rw [Us.far, if_neg hr], S2, rfl⟩, hS⟩
theorem ahead_s (S : List Nat) (s : Nat) (q : Sq) (E : List Asn) (a b : Nat) (x y : Un) (h : NodeAt q E a x) (h' : NodeAt q E b y) : DoS Tryz.prog 279 [pA s, pA a, pA b] (seqA S s q :: E) (fun v H => v = .bool (q.ahead x y) ∧ ∃ S', H = seqA S' s q :: E) := by
  intro m0 X hS
  refine FnE.enter ⟨_, Tryz.func279, by kernel_rfl, by kernel_rfl⟩ Tryz.func279 rfl rfl ?_
  refine go ?_
  refine RL.callM (F := []) (fi := []) (ca := []) hS (far_s S s q E a x h) rfl rfl rfl rfl (Sels.self _) ?_
  rintro _ m _ ⟨rfl, S1, rfl⟩ hS
  simp only [List.append_nil] at hS
  refine ⟨_, rfl, ?_⟩
  refine go ?_
  refine RL.callM (F := []) (fi := []) (ca := []) hS (far_s S1 s q E b y h') rfl rfl rfl rfl (Sels.self _) ?_
  rintro _ m _ ⟨rfl, S2, rfl⟩ hS
  simp only [List.append_nil] at hS
  refine ⟨_, rfl, ?_⟩
  refine go ?_
  by_cases he : q.far x = q.far y
  · refine WP.eqv (v' := .bool false) (by simp [he]) ?_
    refine WP.condF rfl ?_
    obtain ⟨ra, rt, fr, at_, ord, ro, N, k, hS⟩ := seq_open hS
    obtain ⟨p, lv, rv, sz, hN⟩ := h.mem k
    obtain ⟨p', lv', rv', sz', hN'⟩ := h'.mem k
    refine go ?_
    refine RH.callU (fi := []) (ca := []) hS (less_p x.id y.id) rfl (by kernel_rfl) rfl rfl rfl rfl rfl (by repeat (first | with_reducible exact Sels.nil | apply Sels.ro (by with_reducible repeat (first | exact zS .. | apply zO)) (by rfl) | apply Sels.own (by with_reducible repeat (first | exact Sel.head | apply Sel.tail)))) (AllIn.self _) rfl (fun m hS => ?_)
    refine go ?_
    obtain ⟨S3, hS⟩ := seq_close k hS
    exact QN.ret1 rfl rfl ⟨_, rfl, _, ⟨by rw [Us.ahead, if_pos he], S3, rfl⟩, hS⟩
  · refine WP.eqv (v' := .bool true) (by simp [he]) ?_
    refine WP.condT rfl ?_
    refine go ?_
    exact QN.ret1 rfl rfl ⟨_, rfl, _, ⟨by rw [Us.ahead, if_neg he], S2, rfl⟩, hS⟩
theorem nd_ad : ∀ {N : List Nd}, (ofps (ndL N)).Nodup → (N.map (·.a)).Nodup
  | [], _ => List.nodup_nil
  | d :: N, h => by
    have e : ofps (ndL (d :: N)) = [d.a] ++ (d.rl.S ++ (d.rr.S ++ ofps (ndL N))) := by
      show ofps (d.A :: d.rl.A :: d.rr.A :: ndL N) = _
      rw [ofps_cons, ofps_cons, ofps_cons]; rfl
    rw [e] at h
    obtain ⟨_, h2, h3⟩ := List.nodup_append.1 h
    refine List.nodup_cons.2 ⟨fun hm => ?_, nd_ad (List.nodup_append.1 (List.nodup_append.1 h2).2.1).2.1⟩
    obtain ⟨d', hd, e'⟩ := List.mem_map.1 hm
    exact h3 d.a (by simp) d.a (by
      refine List.mem_append_right _ (List.mem_append_right _ (mem_ofps.2 ⟨d'.A, (mem_ndL hd).1, ?_⟩))
      simp [Nd.A, blkA, e']) rfl
theorem Lay.adn {q : Sq} {N : List Nd} {m0 m : World} {M0 X : List Nat} {H F : List Asn} (l : Lay q N) (hS : Tr m0 M0 X m (H ++ (ndL N ++ F))) : q.ad.Nodup := by
  rw [← l.ad]
  have h := hS.hold.nd
  rw [ofps_append, ofps_append] at h
  exact nd_ad (List.nodup_append.1 (List.nodup_append.1 h).2.1).1
theorem SOk.a_inj {q : Sq} {fr : Bool} {at_ : List (Idn × Value)} {ord ro : Rw} {N : List Nd} (k : SOk q fr at_ ord ro N) (hn : q.ad.Nodup) {i j : Nat} (hi : i < q.us.length) (hj : j < q.us.length) (h : q.a i = q.a j) : i = j := by
  have hl := k.adl
  simp only [Sq.a, List.getD_eq_getElem?_getD, List.getElem?_eq_getElem (show i < q.ad.length by omega), List.getElem?_eq_getElem (show j < q.ad.length by omega), Option.getD_some] at h
  exact (List.getElem_inj hn).1 h
theorem under_s (S : List Nat) (s : Nat) (q : Sq) (r l : Nat) (hr : r < q.us.length) (hl : l < q.us.length) (ht : q.tr = true) : DoS Tryz.prog 260 [pA s, pA (q.a r), pA (q.a l)] [seqA S s q] (fun v H => v = .bool (decide (l ∈ (Fo.path [] q.F r).tail)) ∧ ∃ S', H = [seqA S' s q]) := by
  intro m0 X hS
  obtain ⟨ra, rt, fr, at_, ord, ro, N, k, hS⟩ := seq_open hS
  have hnd := k.l.adn (H := [_, _, _, _, _]) hS
  refine FnE.enter ⟨_, Tryz.func260, by kernel_rfl, by kernel_rfl⟩ Tryz.func260 rfl rfl ?_
  refine go ?_
  refine WP.scope ?_
  refine go ?_
  refine WP.label ?_
  refine go ?_
  refine WP.loop (X := Nat) (fun i => [(0, pA s), (1, pA (q.a i)), (2, pA (q.a l)), (6, .bool false)])
    (fun i m' => i < q.us.length ∧ (l ∈ (Fo.path [] q.F r).tail ↔ l ∈ (Fo.path [] q.F i).tail) ∧ Tr m0 (ofps [seqA S s q]) X m' (sqH q s ra rt fr at_ ord ro N [])) (fun i => (Fo.path [] q.F i).length) r
    (Sub.C1 rfl (Sub.C1 rfl (Sub.C1 rfl (Sub.C1 rfl Sub.nil)))) ⟨hr, Iff.rfl, hS⟩ ?_
  clear hS
  rintro i m ⟨hi, hq, hS⟩
  obtain ⟨p, sd, a, b, hA⟩ := Fo.At.of_mem none false ((k.ok.mem i).2 hi)
  obtain ⟨d, hd1, hd2, _⟩ := k.l.at_ ht _ _ _ _ _ hA
  obtain ⟨d', hd', hdm, hda, hdu⟩ := k.l.get hi
  rw [hd1] at hd'
  cases hd'
  have hN : blkA (q.a i) 178 (nC d.u d.p d.rl.v d.rr.v d.sz) ∈ ndL N ++ [] := by rw [← hda]; exact List.mem_append_left _ (mem_ndL hdm).1
  obtain ⟨t, e1, e2, e3⟩ := hA.path (up := []) k.ok.nd (by simp)
  rw [hd2] at hN
  rw [e1, List.tail_cons] at hq
  refine go ?_
  cases p with
  | none =>
    have ht0 : t = [] := by cases t with | nil => rfl | cons y t => cases e2
    refine go ?_
    refine QN.noGotoRet ?_
    obtain ⟨S', hS⟩ := seq_close k hS
    exact QN.ret1 rfl rfl ⟨_, rfl, _, ⟨by rw [decide_eq_false (fun hh => by have := hq.1 hh; simp [ht0] at this)], S', rfl⟩, hS⟩
  | some j =>
    obtain ⟨q', hq', hp', hj'⟩ : ∃ q', some j = some q' ∧ Fo.path [] q.F q' = t ∧ q' ∈ q.F.flat := by
      rcases e3 with rfl | h
      · cases e2
      · exact h
    cases hq'
    have hj := (k.ok.mem j).1 hj'
    obtain ⟨dj, _, hjm, hja, _⟩ := k.l.get hj
    obtain ⟨dl, _, hlm, hla, _⟩ := k.l.get hl
    have hjn : blkA (q.a j) 178 (nC dj.u dj.p dj.rl.v dj.rr.v dj.sz) ∈ ndL N ++ [] := by rw [← hja]; exact List.mem_append_left _ (mem_ndL hjm).1
    have hln : blkA (q.a l) 178 (nC dl.u dl.p dl.rl.v dl.rr.v dl.sz) ∈ ndL N ++ [] := by rw [← hla]; exact List.mem_append_left _ (mem_ndL hlm).1
    obtain ⟨t', ht'⟩ : ∃ t', t = j :: t' := by
      cases t with
      | nil => cases e2
      | cons y t' => cases e2; exact ⟨t', rfl⟩
    refine go ?_
    refine RL.eqPtr T_ok hS rfl rfl rfl rfl rfl (by rfl) rfl (zO _ (zO _ (zO _ (zO _ (zO _ hjn))))) (zO _ (zO _ (zO _ (zO _ (zO _ hln))))) rfl ?_
    by_cases hjl : j = l
    · subst hjl
      refine RL.eqv (v' := .bool true) (by simp) ?_
      refine go ?_
      refine QN.noGotoRet ?_
      obtain ⟨S', hS⟩ := seq_close k hS
      exact QN.ret1 rfl rfl ⟨_, rfl, _, ⟨by rw [decide_eq_true (hq.2 (by simp [ht']))], S', rfl⟩, hS⟩
    · refine RL.eqv (v' := .bool false) (congrArg _ (decide_eq_false fun hh => hjl (k.a_inj hnd hj hl hh))) ?_
      refine go ?_
      refine WP.exit ?_
      refine QN.bx (QN.round j (Sub.C1 rfl (Sub.C1 rfl (Sub.C1 rfl (Sub.C1 rfl Sub.nil)))) ⟨hj, ?_, hS⟩ (by rw [e1, hp']; simp))
      have e4 : l ∈ t ↔ l ∈ t.tail := by rw [ht']; simp [Ne.symm hjl]
      rw [hq, hp', e4]
theorem may1_s (S : List Nat) (s bx : Nat) (q : Sq) (id : Idn) : DoS Tryz.prog 258 [iV id, pA bx] [blkA bx 105 [pA s], seqA S s q] (fun v H => v = .bool (q.there id) ∧ ∃ S', H = [blkA bx 105 [pA s], seqA S' s q]) := by
  intro m0 X hS
  obtain ⟨ra, rt, fr, at_, ord, ro, N, k, hS⟩ := seq_open (hS.perm (.swap ..))
  have hg := k.get id
  have hp := none_s id
  have close : ∀ {m : World} {b1 : Nat}, Tr m0 (ofps [blkA bx 105 [pA s], seqA S s q]) X m (blkA b1 30 (iC id) :: sqH q s ra rt fr at_ ord ro N [blkA bx 105 [pA s]]) → ∃ S', Tr m0 (ofps [blkA bx 105 [pA s], seqA S s q]) X m [blkA bx 105 [pA s], seqA S' s q] := fun hS => by
    obtain ⟨S', hS⟩ := seq_close k hS.tail
    exact ⟨S', hS.perm (.swap ..)⟩
  have hN : blkA bx 105 [pA s] ∈ ndL N ++ [blkA bx 105 [pA s]] := by simp
  refine FnE.enter ⟨_, Tryz.func258, by kernel_rfl, by kernel_rfl⟩ Tryz.func258 rfl rfl ?_
  refine go ?_
  refine RL.boxS hS rfl rfl rfl ?_; (try clear hS); intro b1 m hS; refine ⟨_, rfl, ?_⟩
  refine go ?_
  by_cases h0 : id = ⟨0, 0⟩
  · rw [decide_eq_true h0] at hp
    refine RH.callU (fi := []) (ca := []) hS hp rfl (by kernel_rfl) rfl rfl rfl rfl rfl (by repeat (first | with_reducible exact Sels.nil | apply Sels.ro (by with_reducible repeat (first | exact zS .. | apply zO)) (by rfl) | apply Sels.own (by with_reducible repeat (first | exact Sel.head | apply Sel.tail)))) (AllIn.self _) rfl (fun m hS => ?_)
    refine go ?_
    obtain ⟨S', hS⟩ := close hS
    exact QN.ret1 rfl rfl ⟨_, rfl, _, ⟨by simp [Us.there, h0], S', rfl⟩, hS⟩
  · rw [decide_eq_false h0] at hp
    refine RH.callU (fi := []) (ca := []) hS hp rfl (by kernel_rfl) rfl rfl rfl rfl rfl (by repeat (first | with_reducible exact Sels.nil | apply Sels.ro (by with_reducible repeat (first | exact zS .. | apply zO)) (by rfl) | apply Sels.own (by with_reducible repeat (first | exact Sel.head | apply Sel.tail)))) (AllIn.self _) rfl (fun m hS => ?_)
    refine go ?_
    cases hi : q.idx id with
    | none =>
      rw [hi] at hg
      refine RH.lookup T_ok PanicOk.calm idK rfl (by kernel_rfl) rfl rfl rfl rfl rfl rfl rfl (by with_reducible repeat (first | exact zS .. | apply zO)) hg rfl ?_
      refine go ?_
      obtain ⟨S', hS⟩ := close hS
      exact QN.ret1 rfl rfl ⟨_, rfl, _, ⟨by simp [Us.there, h0, hi], S', rfl⟩, hS⟩
    | some i =>
      rw [hi] at hg
      refine RH.lookup T_ok PanicOk.calm idK rfl (by kernel_rfl) rfl rfl rfl rfl rfl rfl rfl (by with_reducible repeat (first | exact zS .. | apply zO)) hg rfl ?_
      refine go ?_
      obtain ⟨S', hS⟩ := close hS
      exact QN.ret1 rfl rfl ⟨_, rfl, _, ⟨by simp [Us.there, h0, hi], S', rfl⟩, hS⟩
end Go.Proofs.YtgpgladbdoimdaaGreatDoor
end
section
namespace Go.Ev
open Go.RowKit
section
variable {P : Program} {T : Ty} {ops : Array Oper} {Q : Exit → Act → World → Prop} {rest : List Oper} {n : Nat} {e e' : Env} {D : Fr} {m : World} {d : Option Tmp} {x : Operand} {t ft ty : TypeId} {pos : String} {aft : Array Edge} {g : Option (Nat × Bool)} {v : Value} {r : Row} {fs : List (TypeId × Nat × Nat)} {i off sz k : Nat} {cs : List Value}
theorem RL.field (hT : T.Ok P) (hrt : T.row t = some r) (hk : r.k = .stru fs) (hf : fs[i]? = some (ft, off, sz)) (hft : T.plain ft = true) (hg : gd ops e ⟨d, .field t x i, ty, pos, aft, g⟩ = some true) (hx : e.ev x = some (.agg cs.toArray)) (hv : cs[off]? = some v) (hp : putE n d v e = some e')
    (h : RL P ops Q rest n e' D m) : RL P ops Q (⟨d, .field t x i, ty, pos, aft, g⟩ :: rest) n e D m := by
  have h1 := (hT.row hrt).k
  rw [hk] at h1
  obtain ⟨F, hF, hmap⟩ := h1
  have hq' : (F.toList.map fun f => (f.type, f.offset, P.cellsOf f.type))[i]? = some (ft, off, sz) := by rw [hmap]; exact hf
  rw [List.getElem?_map] at hq'
  obtain ⟨fl, hfl, hfq⟩ := Option.map_eq_some_iff.1 hq'
  simp only [Prod.mk.injEq] at hfq
  obtain ⟨rfl, rfl, rfl⟩ := hfq
  have hfl' : F[i]? = some fl := by simpa using hfl
  obtain ⟨r2, hr2, hk2, ha2, hs2⟩ := Ty.plain_spec hft
  refine RL.value v hg (fun a w hfi hs => ?_) hp h
  have h2 := (hT.row hr2).run_isAgg hk2 w
  rw [ha2] at h2
  simp [execOp, hfi.ev hx, Instr.field, run_underlying hF, hfl', part, asAgg, h2, hv]
end
theorem cat_str {P : Program} (t : TypeId) (a b : List UInt8) (h : a.length + b.length ≤ 9223372036854775807) (w : World) : (binOp .add t (.string (str a)) (.string (str b))).run P w = .ok (.string (str (a ++ b))) w := by
  have e : str a ++ str b = str (a ++ b) := by
    apply ByteArray.ext
    simp [str, ByteArray.data_append]
  have e1 : ((str a).size + (str b).size : Nat) = a.length + b.length := by show a.toArray.size + b.toArray.size = _; simp
  have e2 : ¬ (((str a).size + (str b).size : Nat) : Int) > IntKind.i64.max := by rw [e1, show IntKind.i64.max = 9223372036854775807 from rfl]; omega
  simp only [binOp, Op.stringOp]
  rw [if_neg e2, e]
  rfl
theorem nrm_at (T : Ty) (b x k : Nat) : some (Value.pointer (some (nrmA T (Addr.add ⟨b, 0, none⟩ x) k))) = some (.pointer (some ⟨b, x + k, none⟩)) := by
  rw [nrmA_eq]
  simp only [Addr.add]
  by_cases hx : x = 0
  · subst hx
    by_cases hk : k = 0
    · subst hk; simp
    · simp [hk]
  · by_cases hk : k = 0
    · subst hk; simp [hx]
    · simp [hk, hx]
theorem goS {p q : Prop} (h : q) (t : Hid q → p := by
  intro hZ
  repeat (first
    | refine RL.autoP T_okN rfl rfl ?_
    | refine RL.autoK 1 T_okN rfl rfl ?_
    | refine RL.loadM T_ok hS rfl rfl rfl (by repeat (first | with_reducible exact zS .. | with_reducible apply zO | exact hN | exact hN' | exact hN2)) (by rfl) (by rfl) ?_
    | refine RL.lsM T_ok hS rfl rfl rfl (by repeat (first | with_reducible exact zS .. | with_reducible apply zO | exact hN | exact hN' | exact hN2)) (by rfl) (by rfl) (by rfl) ?_
    | refine RH.vals 60 T_okN PanicOk.calm rfl (by kernel_rfl) rfl ?_
    | refine RH.vals 1 T_okN PanicOk.calm rfl (by kernel_rfl) rfl ?_
    | refine RH.ld T_ok PanicOk.calm rfl (by kernel_rfl) rfl rfl rfl rfl (by repeat (first | with_reducible exact zS .. | with_reducible apply zO | exact hN | exact hN' | exact hN2)) (by rfl) (by rfl) ?_
    | refine RH.ldS T_ok PanicOk.calm rfl (by kernel_rfl) rfl rfl rfl rfl (by repeat (first | with_reducible exact zS .. | with_reducible apply zO | exact hN | exact hN' | exact hN2)) (by rfl) (by rfl) (by rfl) ?_
    | refine RL.indexAddr T_ok rfl rfl rfl rfl rfl rfl rfl (by omega) rfl ?_
    | refine RH.ix T_ok PanicOk.calm rfl (by kernel_rfl) rfl rfl rfl rfl rfl rfl rfl rfl (by omega) rfl ?_
    | (refine RL.N1 ?_; (with_reducible repeat (first | refine QN.B1 ?_ | refine QN.N1 ?_)))
    | (refine RH.stop (by rfl) (QN.calm ?_); (with_reducible repeat (first | refine QN.B1 ?_ | refine QN.N1 ?_)))
    | with_reducible refine WP.S1 ?_ | with_reducible refine WP.B1 ?_ | with_reducible refine WP.R1 ?_
    | (refine WP.skip ?_; (with_reducible repeat (first | refine QN.B1 ?_ | refine QN.N1 ?_))) | refine WP.condT rfl ?_ | refine WP.condF rfl ?_
    | (refine WP.ret ?_; (with_reducible repeat (first | refine QN.tr ?_ | refine QN.br ?_)))
    | with_reducible refine QN.B1 ?_ | with_reducible refine QN.N1 ?_)
  exact hZ.out) : p := t ⟨h⟩
end Go.Ev
end
section
namespace Go.Ev
open Go.RowKit
def itA (b : Nat) (l : List UInt8) (pos : Nat) : Asn where
  own := [b]
  P := fun m _ => m.heap[b]? = some (.stringIter (str l) pos)
  lt := fun h k hk => by
    have : k = b := by simpa using hk
    subst this
    exact (Array.getElem?_eq_some_iff.1 h).1
  keep := fun h hE hn _ _ => (hE.far _ (Array.getElem?_eq_some_iff.1 h).1 (hn _ (by simp))).trans h
theorem run_nextStr {P : Program} {w : World} {b pos : Nat} {s : ByteArray} (ty : TypeId) (h : w.heap[b]? = some (.stringIter s pos)) (hp : pos < s.size) :
    (Instr.next (.pointer (some ⟨b, 0, none⟩)) true ty).run P w = .ok (.tuple #[.bool true, .int .i64 pos, .int .i32 (Utf8.decode s pos).1]) (setB w b (.stringIter s (pos + (Utf8.decode s pos).2))) := by
  simp [Instr.next, getObj, setObj, Sem.run, h, hp, goInt, setB]
theorem run_nextStrEnd {P : Program} {w : World} {b pos : Nat} {s : ByteArray} (ty : TypeId) (h : w.heap[b]? = some (.stringIter s pos)) (hp : ¬ pos < s.size) :
    (Instr.next (.pointer (some ⟨b, 0, none⟩)) true ty).run P w = .ok (.tuple #[.bool false]) w := by
  simp [Instr.next, getObj, Sem.run, h, hp]
section
variable {P : Program} {T : Ty} {ops : Array Oper} {Q : Exit → Act → World → Prop} {rest : List Oper} {n : Nat} {e e' : Env} {D : Fr} {m0 m : World} {M0 X : List Nat} {H H' : List Asn}
  {d : Option Tmp} {x y : Operand} {t ty : TypeId} {pos : String} {aft : Array Edge} {g : Option (Nat × Bool)} {l : List UInt8} {b p : Nat}
theorem RL.rangeStr (hT : T.Ok P) (hS : Tr m0 M0 X m H) (ht : (T.row t).map (·.k) = some .str) (hg : gd ops e ⟨d, .range t x, ty, pos, aft, g⟩ = some true) (hx : e.ev x = some (.string (str l)))
    (h : ∀ b m', Tr m0 M0 X m' (itA b l 0 :: H) → ∃ e', putE n d (.pointer (some ⟨b, 0, none⟩)) e = some e' ∧ RL P ops Q rest n e' D m') : RL P ops Q (⟨d, .range t x, ty, pos, aft, g⟩ :: rest) n e D m := by
  have hu := isStr hT ht
  have hC := Chg.alloc m (.stringIter (str l) 0)
  have hS' : Tr m0 M0 X (m.alloc (.stringIter (str l) 0)) (itA m.heap.size l 0 :: H) := hS.new (hC.new (Nat.le_refl _)) (fun k hk => Nat.le_of_eq (show m.heap.size = k from (List.mem_singleton.1 hk).symm)) (by simp [itA]) hC.here
  obtain ⟨e', hp, hk⟩ := h _ _ hS'
  refine RL.valueW _ _ hg (fun a w hf hs => ⟨_, ?_, hs.alloc _⟩) hp hk
  simp [execOp, hf.ev hx, Instr.range, run_underlying hu, hs.size]
theorem RL.nextStr (hS : Tr m0 M0 X m H) (hg : gd ops e ⟨d, .next x true, ty, pos, aft, g⟩ = some true) (hx : e.ev x = some (.pointer (some ⟨b, 0, none⟩))) (hlt : p < l.length) (hr : Rep (itA b l p) (itA b l (p + (Utf8.decode (str l) p).2)) H H')
    (hp : putE n d (.tuple #[.bool true, .int .i64 p, .int .i32 (Utf8.decode (str l) p).1]) e = some e') (h : ∀ m', Tr m0 M0 X m' H' → RL P ops Q rest n e' D m') : RL P ops Q (⟨d, .next x true, ty, pos, aft, g⟩ :: rest) n e D m := by
  obtain ⟨F, h1, h2⟩ := hr.perms
  have hb : m.heap[b]? = some (.stringIter (str l) p) := (hS.perm h1).head
  have hC := Chg.setB hb (.stringIter (str l) (p + (Utf8.decode (str l) p).2))
  have hS' := ((hS.perm h1).step_same (A := itA b l p) (B := itA b l (p + (Utf8.decode (str l) p).2)) (by simpa [itA] using hC.ext) rfl hC.here).perm h2
  refine RL.valueW _ _ hg (fun a w hf hs => ⟨_, ?_, hs.setB b _⟩) hp (h _ hS')
  have := run_nextStr (P := P) ty (show w.heap[b]? = some (.stringIter (str l) p) by rw [hs.heap]; exact hb) (by simpa [str_sz] using hlt)
  simp [execOp, hf.ev hx, this]
theorem RL.nextEnd (hS : Tr m0 M0 X m H) (hg : gd ops e ⟨d, .next x true, ty, pos, aft, g⟩ = some true) (hx : e.ev x = some (.pointer (some ⟨b, 0, none⟩))) (hlt : l.length ≤ p) (hm : itA b l p ∈ H)
    (hp : putE n d (.tuple #[.bool false]) e = some e') (h : RL P ops Q rest n e' D m) : RL P ops Q (⟨d, .next x true, ty, pos, aft, g⟩ :: rest) n e D m := by
  have hb : m.heap[b]? = some (.stringIter (str l) p) := hS.mem hm
  refine RL.value _ hg (fun a w hf hs => ?_) hp h
  have := run_nextStrEnd (P := P) ty (show w.heap[b]? = some (.stringIter (str l) p) by rw [hs.heap]; exact hb) (by rw [str_sz]; omega)
  simp [execOp, hf.ev hx, this]
end
end Go.Ev
end
section
namespace Go.Ev
open Go.RowKit
section
variable {κ : Type} [DecidableEq κ] {enc : κ → Value} {Lv : World → κ → Prop} {P : Program} {T : Ty} {ops : Array Oper} {Q : Exit → Act → World → Prop} {l rest : List Oper} {n : Nat} {e e' : Env} {D : Fr} {m0 m m' : World} {M0 X : List Nat} {H H' F L : List Asn}
  {d : Option Tmp} {x y z : Operand} {t ty kt et : TypeId} {pos : String} {aft : Array Edge} {g : Option (Nat × Bool)} {v u : Value} {rt re : Row} {fin : List Nat} {fuel : Nat} {listed : Array Bool} {r it c : Nat} {es : List (κ × Value)} {k : κ} {lst : Option (κ × Value)}
def Lives (Lv : World → κ → Prop) (k : κ) (es : List (κ × Value)) (m : World) : Prop := ∀ w, Sim m w → Lv w k ∧ ∀ p ∈ es, Lv w p.1
theorem RL.lookupL (hT : T.Ok P) (K : KeyL P kt enc Lv) {ok : Bool} (hg : gd ops e ⟨d, .lookup t x y ok, ty, pos, aft, g⟩ = some true) (hrt : T.row t = some rt) (hk : rt.k = .map kt et) (hre : T.row et = some re)
    (hx : e.ev x = some (.map (some r))) (hy : e.ev y = some (enc k)) (hM : MapIn m r enc es) (hl : Lives Lv k es m) (hv : (if ok then .tuple #[(mget es k).getD re.zero, .bool (mget es k).isSome] else (mget es k).getD re.zero) = v) (hp : putE n d v e = some e')
    (h : RL P ops Q rest n e' D m) : RL P ops Q (⟨d, .lookup t x y ok, ty, pos, aft, g⟩ :: rest) n e D m := by
  have hu := (hT.row hrt).k
  rw [hk] at hu
  refine RL.value v hg (fun a w hf hs => ?_) hp h
  have h1 := run_lookup K hu (fun w => (hT.row hre).run_zero w) hM hs k (hl w hs).1 (hl w hs).2 ok
  rw [hv] at h1
  simp [execOp, hf.ev hx, hf.ev hy, h1]
theorem RH.lookupL {J : World → Prop} (hT : T.Ok P) (hQ : PanicOk Q) (K : KeyL P kt enc Lv) {i : Nat} {ok : Bool} (_ : pickB isLook ops fin listed.toList (rdyL ops listed.toList) = some i) (hB : (plainOps ops && takesB ops fin listed [i]) = true) (hi : ops[i]? = some ⟨d, .lookup t x y ok, ty, pos, aft, g⟩) (hg : gd ops e ⟨d, .lookup t x y ok, ty, pos, aft, g⟩ = some true) (hrt : T.row t = some rt) (hk : rt.k = .map kt et) (hre : T.row et = some re)
    (hx : e.ev x = some (.map (some r))) (hy : e.ev y = some (enc k)) (hJ : ∀ m', J m' → MapIn m' r enc es ∧ Lives Lv k es m') (hv : (if ok then .tuple #[(mget es k).getD re.zero, .bool (mget es k).isSome] else (mget es k).getD re.zero) = v) (hp : putE n d v e = some e')
    (h : RH P ops Q J fin fuel (listed.setIfInBounds i true) n e' D m) : RH P ops Q J fin (fuel + 1) listed n e D m := by
  have hu := (hT.row hrt).k
  rw [hk] at hu
  simp only [takesB, Bool.and_eq_true, Bool.and_true] at hB
  refine RH.take hi hB.1 hB.2.1 hB.2.2 hQ (fun a hf => .inl ⟨gd_sound hf hg, fun w ⟨m', hs, hj⟩ => ?_⟩) hp h
  obtain ⟨hM, hl⟩ := hJ m' hj
  have h1 := run_lookup K hu (fun w => (hT.row hre).run_zero w) hM hs k (hl w hs).1 (hl w hs).2 ok
  rw [hv] at h1
  simp [execOp, hf.ev hx, hf.ev hy, h1]
theorem RL.mapUpdateL (hT : T.Ok P) (hS : Tr m0 M0 X m H) (K : KeyL P kt enc Lv) (hg : gd ops e ⟨d, .mapUpdate t x y z, ty, pos, aft, g⟩ = some true) (hrt : T.row t = some rt) (hk : rt.k = .map kt et)
    (hx : e.ev x = some (.map (some r))) (hy : e.ev y = some (enc k)) (hz : e.ev z = some v) (hm : mapA r enc es ∈ H) (hr : Rep (mapA r enc es) (mapA r enc (mset es k v)) H H') (hl : Lives Lv k es m) (hp : putE n d undef e = some e')
    (h : ∀ m', Tr m0 M0 X m' H' → RL P ops Q rest n e' D m') : RL P ops Q (⟨d, .mapUpdate t x y z, ty, pos, aft, g⟩ :: rest) n e D m := by
  have hu := (hT.row hrt).k
  rw [hk] at hu
  obtain ⟨m', o, hC, hM, hw⟩ := run_mapUpdate K hu (hS.mem hm) k v
  refine RL.skipW m' hg (fun a w hf hs => ?_) hp (h m' (hS.repMap hr hC hM))
  obtain ⟨w', h1, h2⟩ := hw w hs (hl w hs).1 (hl w hs).2
  exact ⟨w', by simp [execOp, hf.ev hx, hf.ev hy, hf.ev hz, h1], h2⟩
def MIt (m : World) (r it : Nat) (enc : κ → Value) (es : List (κ × Value)) (c : Nat) (lst : Option (κ × Value)) : Prop :=
  ∃ (l : List MapEntry) (clock : Nat) (seen : Array Nat), m.heap[r]? = some (.map l.toArray clock) ∧ EsOk enc l es ∧ (es.map Prod.fst).Nodup ∧ (l.map (·.born)).Nodup ∧ (∀ e ∈ l, e.born < clock) ∧
    m.heap[it]? = some (.mapIter (some r) clock seen clock) ∧ (leftOf l.toArray seen).size = c ∧ ∀ p, lst = some p → ∃ e ∈ l, e.key = enc p.1 ∧ e.val = p.2 ∧ seen.back? = some e.born
def mitA (r it : Nat) (enc : κ → Value) (es : List (κ × Value)) (c : Nat) (lst : Option (κ × Value)) : Asn where
  own := [r, it]
  P := fun m _ => MIt m r it enc es c lst
  lt := fun ⟨_, _, _, h, _, _, _, _, h', _⟩ k hk => by
    rcases List.mem_cons.1 hk with rfl | hk
    · exact (Array.getElem?_eq_some_iff.1 h).1
    · have : k = it := by simpa using hk
      subst this; exact (Array.getElem?_eq_some_iff.1 h').1
  keep := fun ⟨l, c, seen, h, h1, h2, h3, h4, h', h5⟩ hE hn _ _ => ⟨l, c, seen, (hE.far r (Array.getElem?_eq_some_iff.1 h).1 (hn r (by simp))).trans h, h1, h2, h3, h4, (hE.far it (Array.getElem?_eq_some_iff.1 h').1 (hn it (by simp))).trans h', h5⟩
omit [DecidableEq κ] in
theorem MIt.map (h : MIt m r it enc es c lst) : MapIn m r enc es := by
  obtain ⟨l, clock, seen, h, h1, h2, h3, h4, _⟩ := h
  exact ⟨l, clock, h, h1, h2, h3, h4⟩
omit [DecidableEq κ] in
theorem RL.rangeMap (hT : T.Ok P) (hS : Tr m0 M0 X m (mapA r enc es :: H)) (hg : gd ops e ⟨d, .range t x, ty, pos, aft, g⟩ = some true) (hrt : T.row t = some rt) (hk : rt.k = .map kt et) (hx : e.ev x = some (.map (some r)))
    (h : ∀ b m', Tr m0 M0 X m' (mitA r b enc es es.length none :: H) → ∃ e', putE n d (.pointer (some ⟨b, 0, none⟩)) e = some e' ∧ RL P ops Q rest n e' D m') : RL P ops Q (⟨d, .range t x, ty, pos, aft, g⟩ :: rest) n e D m := by
  have hu := (hT.row hrt).k
  rw [hk] at hu
  obtain ⟨l, clock, hr, he, hn, hb, hc⟩ := hS.head
  have hC := Chg.alloc m (.mapIter (some r) clock #[] clock)
  have hlt := (Array.getElem?_eq_some_iff.1 hr).1
  have hS' : Tr m0 M0 X (m.alloc (.mapIter (some r) clock #[] clock)) (mitA r m.heap.size enc es es.length none :: H) := by
    have hlen : l.length = es.length := by have := congrArg List.length he; simpa using this
    have hr1 : (m.alloc (.mapIter (some r) clock #[] clock)).heap[r]? = some (.map l.toArray clock) := (hC.far r (by omega)).trans hr
    have hnd := hS.hold.nd
    refine hS.step (A := mapA r enc es) (B := mitA r m.heap.size enc es es.length none) ((hC.new (Nat.le_refl _)).mono (by simp)) (fun k hk => ?_) ?_ (fun k hk hin => ?_) ⟨l, clock, #[], hr1, he, hn, hb, hc, hC.here, ?_, fun p hp => by cases hp⟩
    · rcases List.mem_cons.1 hk with rfl | hk
      · exact .inl (by simp [mapA])
      · exact .inr (Nat.le_of_eq (List.mem_singleton.1 hk).symm)
    · simp [mitA]; omega
    · rcases List.mem_cons.1 hk with rfl | hk
      · have hd := List.nodup_append.1 (ofps_cons (mapA k enc es) H ▸ hnd)
        rcases List.mem_append.1 hin with h1 | h1
        · exact hd.2.2 k (by simp [mapA]) k h1 rfl
        · exact hS.hold.out k (by simp [ofps, mapA]) h1
      · have e : k = m.heap.size := List.mem_singleton.1 hk
        subst e
        rcases List.mem_append.1 hin with h1 | h1
        · exact Nat.lt_irrefl _ (hS.hold.lt _ (by rw [ofps_cons]; exact List.mem_append_right _ h1))
        · have := hS.xlt _ h1; have := hS.ext.size; omega
    · simp only [leftOf, ← hlen]
      simp [List.filter_eq_self.2]
  obtain ⟨e', hp, hk⟩ := h _ _ hS'
  refine RL.valueW _ _ hg (fun a w hf hs => ⟨_, ?_, hs.alloc _⟩) hp hk
  have hw : (getObj r).run P w = .ok (.map l.toArray clock) w := run_getM (by rw [hs.heap]; exact hr)
  simp [execOp, hf.ev hx, Instr.range, run_underlying hu, hw, hs.size]
omit [DecidableEq κ] in
theorem mem_enc {l : List MapEntry} (he : EsOk enc l es) {x : MapEntry} (hx : x ∈ l) : ∃ p ∈ es, x.key = enc p.1 ∧ x.val = p.2 := by
  have h1 : (x.key, x.val) ∈ l.map (fun e => (e.key, e.val)) := List.mem_map.2 ⟨x, hx, rfl⟩
  unfold EsOk at he
  rw [he] at h1
  obtain ⟨p, hp, e⟩ := List.mem_map.1 h1
  simp only [Prod.mk.injEq] at e
  exact ⟨p, hp, e.1.symm, e.2.symm⟩
omit [DecidableEq κ] in
theorem run_setM' {P : Program} {w : World} {r : Nat} {i0 : Option Nat} {i1 i3 : Nat} {i2 : Array Nat} (o : Obj) (h : w.heap[r]? = some (.mapIter i0 i1 i2 i3)) : (setObj r o).run P w = .ok () { w with heap := w.heap.setIfInBounds r o } := by simp [setObj, Sem.run, h]
omit [DecidableEq κ] in
theorem RL.nextMap (hS : Tr m0 M0 X m (mitA r it enc es c lst :: H)) (hg : gd ops e ⟨d, .next x false, ty, pos, aft, g⟩ = some true) (hx : e.ev x = some (.pointer (some ⟨it, 0, none⟩)))
    (h0 : c = 0 → Tr m0 M0 X m (mitA r it enc es c lst :: H) → ∃ e', putE n d (.tuple #[.bool false]) e = some e' ∧ RL P ops Q rest n e' D m)
    (h1 : ∀ p ∈ es, ∀ c' m', c' < c → Tr m0 M0 X m' (mitA r it enc es c' (some p) :: H) → ∃ e', putE n d (.tuple #[.bool true, enc p.1, p.2]) e = some e' ∧ RL P ops Q rest n e' D m') : RL P ops Q (⟨d, .next x false, ty, pos, aft, g⟩ :: rest) n e D m := by
  obtain ⟨l, clock, seen, hr, he, hn, hb, hc, hi, hl, hlst⟩ := hS.head
  refine RL.ofRun hg fun a w hf hs => ?_
  have hr' : (getObj r).run P w = .ok (.map l.toArray clock) w := run_getM (by rw [hs.heap]; exact hr)
  have hi' : (getObj it).run P w = .ok (.mapIter (some r) clock seen clock) w := by simp [getObj, Sem.run, hs.heap, hi]
  have e1 : (leftOf l.toArray seen).filter (fun x => decide (x.born < clock)) = leftOf l.toArray seen := Array.filter_eq_self.2 (fun x hx => by
    have := (Array.mem_filter.1 hx).1
    simpa using hc x (by simpa using this))
  have e2 : (leftOf l.toArray seen).filter (fun x => decide (x.born ≥ clock)) = #[] := by
    rw [Array.filter_eq_empty_iff]
    intro x hx
    have := hc x (by simpa using (Array.mem_filter.1 hx).1)
    simp; omega
  have e3 : (!seen.isEmpty && !l.toArray.isEmpty && l.toArray.all (fun x => decide (x.born ≥ clock))) = false := next_test_false seen l.toArray clock clock (fun x hx => hc x (by simpa using hx)) (Nat.le_refl _)
  have key : ((leftOf l.toArray seen).size = 0 ∧ (Instr.next (.pointer (some ⟨it, 0, none⟩)) false ty).run P w = .ok (.tuple #[.bool false]) w) ∨
      ∃ x ∈ (leftOf l.toArray seen).toList, ∃ w1 : World, (w1 = w ∨ w1 = w.drew) ∧ (Instr.next (.pointer (some ⟨it, 0, none⟩)) false ty).run P w = .ok (.tuple #[.bool true, x.key, x.val]) (setB w1 it (.mapIter (some r) clock (seen.push x.born) clock)) := by
    unfold leftOf at e1 e2 ⊢
    simp only [Instr.next, Sem.run_bind, hi', Result.andThen_ok, hr', e3, Bool.false_eq_true, if_false, e1, e2, Array.append_empty]
    generalize Array.filter (fun e => !seen.contains e.born) l.toArray = L
    by_cases h0 : L.size = 0
    · left
      have : L = #[] := Array.eq_empty_of_size_eq_zero h0
      subst this
      refine ⟨rfl, ?_⟩
      simp [choose, Sem.run, Question.forced]
    · right
      have hne : L.isEmpty = false := by simp [Array.isEmpty, h0]
      simp only [hne, Bool.false_eq_true, if_false, Array.empty_append, Array.size_map]
      have hch : ∃ (j : Nat) (w1 : World), j < L.size ∧ (w1 = w ∨ w1 = w.drew) ∧ (choose (Question.mapNext L.size)).run P w = .ok j w1 := by
        by_cases hf : L.size ≤ 1
        · exact ⟨0, w, by omega, .inl rfl, by simp [choose, Sem.run, Question.forced, hf]⟩
        · exact ⟨_, w.drew, Nat.mod_lt _ (by omega), .inr rfl, by
            simp only [choose, Sem.run, Question.forced, decide_eq_true_eq, hf, if_false, Question.cut]
            rfl⟩
      obtain ⟨j, w1, hj, hal, hrun⟩ := hch
      refine ⟨L[j], by simp, w1, hal, ?_⟩
      have hw1 : w1.heap[it]? = some (.mapIter (some r) clock seen clock) := by rcases hal with rfl | rfl <;> simpa [World.drew, hs.heap] using hi
      simp only [hrun, Array.getElem?_map, Array.getElem?_eq_getElem hj, Option.map_some, Sem.run_bind, run_setM' _ hw1, Result.andThen_ok]
      simp [Ev.setB]
  rcases key with ⟨hz, hrun⟩ | ⟨x, hxm, w1, hw1, hrun⟩
  · obtain ⟨e', hp, hk⟩ := h0 (hl.symm.trans hz) hS
    exact ⟨.value (.tuple #[.bool false]), w, by simp [execOp, hf.ev hx, hrun], (fun _ hh => by cases hh), hk _ w (hf.put hp) hs⟩
  · obtain ⟨hxl, hxs⟩ := mem_left hxm
    have hxl' : x ∈ l := by simpa using hxl
    obtain ⟨p, hp, hpk, hpv⟩ := mem_enc he hxl'
    have hC := Chg.setB hi (.mapIter (some r) clock (seen.push x.born) clock)
    have hne : r ≠ it := fun hh => by
      have := hS.hold.nd
      subst hh
      simp [ofps, mitA] at this
    have hS' : Tr m0 M0 X (setB m it (.mapIter (some r) clock (seen.push x.born) clock)) (mitA r it enc es (leftOf l.toArray (seen.push x.born)).size (some p) :: H) :=
      hS.step_same (A := mitA r it enc es c lst) (B := mitA r it enc es _ (some p)) ((by simpa using hC.ext : Ext m [it] _).mono (by simp [mitA])) rfl
        ⟨l, clock, seen.push x.born, (hC.far r hne).trans hr, he, hn, hb, hc, hC.here, rfl, fun q hq => by cases hq; exact ⟨x, hxl', hpk, hpv, by simp⟩⟩
    obtain ⟨e', hp', hk⟩ := h1 p hp _ _ (by rw [← hl]; exact left_shrinks _ _ x hxm) hS'
    refine ⟨.value (.tuple #[.bool true, enc p.1, p.2]), setB w1 it (.mapIter (some r) clock (seen.push x.born) clock), by rw [← hpk, ← hpv]; simp [execOp, hf.ev hx, hrun], (fun _ hh => by cases hh), hk _ _ (hf.put hp') ?_⟩
    have hs1 : Sim m w1 := by
      rcases hw1 with rfl | rfl
      · exact hs
      · exact hs.drew
    exact hs1.setB it _
omit [DecidableEq κ] in
theorem RL.entryMap (hS : Tr m0 M0 X m H) {p : κ × Value} (hg : gd ops e ⟨d, .entry x, ty, pos, aft, g⟩ = some true) (hx : e.ev x = some (.pointer (some ⟨it, 0, none⟩))) (hm : mitA r it enc es c (some p) ∈ H)
    (hp : putE n d (.tuple #[enc p.1, p.2]) e = some e') (h : RL P ops Q rest n e' D m) : RL P ops Q (⟨d, .entry x, ty, pos, aft, g⟩ :: rest) n e D m := by
  obtain ⟨l, clock, seen, hr, he, hn, hb, hc, hi, hl, hlst⟩ := hS.mem hm
  obtain ⟨z, hz, hk, hv, hbk⟩ := hlst p rfl
  refine RL.value _ hg (fun a w hf hs => ?_) hp h
  have hr' : (getObj r).run P w = .ok (.map l.toArray clock) w := run_getM (by rw [hs.heap]; exact hr)
  have hi' : (getObj it).run P w = .ok (.mapIter (some r) clock seen clock) w := by simp [getObj, Sem.run, hs.heap, hi]
  have hf' : l.toArray.find? (·.born == z.born) = some z := by rw [← Array.find?_toList]; exact find_born z l hb hz
  have : (Instr.entry (.pointer (some ⟨it, 0, none⟩))).run P w = .ok (.tuple #[z.key, z.val]) w := by
    simp only [Instr.entry, Sem.run_bind, hi', Result.andThen_ok, hbk, hr', bne_self_eq_false, Bool.false_eq_true, if_false, hf']
    rfl
  rw [← hk, ← hv]
  simp [execOp, hf.ev hx, this]
def ptrE (o : Option Nat) : Value := .pointer (o.map fun b => ⟨b, 0, none⟩)
def LvP (w : World) (o : Option Nat) : Prop := ∀ b, o = some b → ∃ (c : Array Value) (t : TypeId), w.heap[b]? = some (.cells c t (0, 0))
theorem ptrK {te : TypeId} {j : TypeInfo} (hu : P.underlying kt = some (.pointer te)) (hte : P.info? te = some j) (hz : j.size ≠ 0) : KeyL P kt ptrE LvP where
  desc := ⟨_, hu, .inr fun a b => rfl⟩
  eq := fun a b w ha hb => by
    have h : ∀ n : Nat, (Op.equalIn (n + 1) kt (ptrE a) (ptrE b)).run P w = .ok (decide (a = b)) w := fun n => by
      cases a with
      | none => cases b <;> simp [ptrE, Op.equalIn, run_underlying hu]
      | some a =>
        cases b with
        | none => simp [ptrE, Op.equalIn, run_underlying hu]
        | some b =>
          obtain ⟨ca, ta, ha⟩ := ha a rfl
          obtain ⟨cb, tb, hb⟩ := hb b rfl
          by_cases hab : a = b
          · subst hab
            simp [ptrE, Op.equalIn, run_underlying hu, sizeOf, typeInfo, hte, run_sameAddr_same]
          · have hne : (⟨a, 0, none⟩ : Addr) ≠ ⟨b, 0, none⟩ := fun hh => hab (congrArg Addr.block hh)
            simp [ptrE, Op.equalIn, run_underlying hu, sizeOf, typeInfo, hte, hz, hab, run_sameAddr_other w hne ha hb]
    simp only [Op.equal, Op.maxDepth]
    exact h 9999
  chk := fun z a w => by
    rw [show (10000 : Nat) = 9999 + 1 from rfl]
    unfold Instr.checkKey
    simp only [Sem.run_bind, run_underlying hu, Result.andThen_ok, Sem.run_pure]
  bits := fun a => by cases a <;> simp [Instr.sameBits, ptrE]
theorem LvP.blk {m : World} {b : Nat} {t : TypeId} {cs : List Value} (h : Blk m b t cs) : ∀ w, Sim m w → LvP w (some b) := fun w hs b' hb => by
  cases hb
  exact ⟨_, _, by rw [hs.heap]; exact h⟩
end
end Go.Ev
end
section
namespace Go.Proofs.YtgpgladbdoimdaaGreatDoor
open Go.ChangeShapes Go.WideShapes Go.ChangeAt Go.RowKit Go.Ev Go.Ids Go.SeqP
set_option maxRecDepth 20000
set_option maxHeartbeats 1000000
def Sq0 : Sq := ⟨⟨[], .nil⟩, [], true⟩
theorem seqnew_s : DoS Tryz.prog 82 [] [] (fun v H => ∃ S s, v = pA s ∧ H = [seqA S s Sq0]) := by
  intro m0 X hS
  refine FnE.enter ⟨_, Tryz.func82, by kernel_rfl, by kernel_rfl⟩ Tryz.func82 rfl rfl ?_
  refine go ?_
  refine RL.makeMap hS iV rfl ?_
  clear hS
  intro ra m hS
  refine ⟨_, rfl, ?_⟩
  refine go ?_
  refine RL.makeMap hS iV rfl ?_
  clear hS
  intro rt m hS
  refine ⟨_, rfl, ?_⟩
  refine go ?_
  refine RL.boxS hS rfl rfl rfl ?_; (try clear hS); intro b m hS; refine ⟨_, rfl, ?_⟩
  refine go ?_
  have hS : Tr m0 (ofps []) X m [blkA b 175 [.map (some ra), .slice none 0 0, .slice none 0 0, .map (some rt), .bool true], mapA rt iV ([] : List (Idn × Value)), mapA ra iV ([] : List (Idn × Value))] := hS
  have hS := (hS.empty 176 1 none).empty 176 1 none
  have hok : Us.Ok Sq0.toUs := ⟨by simp [Sq0, Fo.flat], by simp [Sq0, Fo.flat], by simp [Sq0], by simp [Sq0], fun i p s a b h => by cases h⟩
  obtain ⟨S, hS⟩ := seq_close (s := b) (ra := ra) (rt := rt) (q := Sq0) (fr := true) (at_ := []) (ord := ⟨[], .slice none 0 0, []⟩) (ro := ⟨[], .slice none 0 0, []⟩) (N := []) (F := []) ⟨rfl, fun _ => rfl, ⟨rfl, rfl, fun _ i p s a b h => by cases h⟩, hok, Nat.zero_le _, fun _ k i h => by simp [Sq0, Fo.flat] at h⟩
    (hS.perm ((List.perm_append_comm (l₁ := [_, _]) (l₂ := [_, _, _])).trans (.cons _ (.swap ..))))
  exact QN.ret1 rfl rfl ⟨_, rfl, _, ⟨S, b, rfl, rfl⟩, hS⟩
theorem nodeK : KeyL Tryz.prog 176 ptrE LvP := ptrK (te := 178) (Tryz.underlying176) rfl (by decide)
def twE (ps : List (Nat × Nat)) : List (Option Nat × Value) := ps.map fun p => (some p.1, pA p.2)
theorem twE_get (ps : List (Nat × Nat)) (k : Option Nat) : ∃ o : Option Nat, (mget (twE ps) k).getD (.pointer none) = ptrE o := by
  induction ps with
  | nil => exact ⟨none, rfl⟩
  | cons p ps ih =>
    by_cases h : some p.1 = k
    · exact ⟨some p.2, by simp [twE, mget, h, ptrE, pA]⟩
    · obtain ⟨o, ho⟩ := ih
      exact ⟨o, by rw [← ho]; simp [twE, mget, h]⟩
theorem twins_s (L : List Asn) (A : Asn) (bt rm : Nat) (ps : List (Nat × Nat)) (r : Rw) (hn : r.xs.length ≤ 1000000) (hA : A ∈ L) (hM : ∀ m M, A.P m M → MapIn m rm ptrE (twE ps)) (hb : blkA bt 214 [.map (some rm)] ∈ L) (hr : r.A ∈ L) (hx : ∀ x ∈ r.xs, ∃ t cs, blkA x t cs ∈ L) (hp : ∀ p ∈ ps, ∃ t cs, blkA p.1 t cs ∈ L) :
    DoS Tryz.prog 139 [r.v, pA bt] L (fun v H => (∃ A n c, v = .slice A n c) ∧ H = L) := by
  intro m0 X hS
  obtain ⟨M0, hM0⟩ : ∃ M0, M0 = ofps L := ⟨_, rfl⟩
  rw [← hM0] at hS ⊢
  obtain ⟨Ar, c, hv, hc⟩ := Rw.shape hS hr
  have hS := hS.empty 176 1 none
  have hN := hb
  refine FnE.enter ⟨_, Tryz.func139, by kernel_rfl, by kernel_rfl⟩ Tryz.func139 rfl rfl ?_
  refine go ?_
  rw [hv]
  refine go ?_
  refine (WP.loop (X := Nat × List Nat × Value × List Value) (fun z => [(7, .slice Ar r.xs.length c), (1, pA bt), (4, z.2.2.1), (8, .int .i64 r.xs.length), (9, .int .i64 z.1)])
    (fun z m' => z.1 ≤ r.xs.length ∧ z.2.2.2.length = z.1 ∧ Tr m0 M0 X m' (ownA z.2.1 176 1 z.2.2.1 z.1 z.2.2.2 :: L)) (fun z => r.xs.length - z.1) (0, [], .slice none 0 0, [])
    (Sub.C1 rfl (Sub.C1 rfl (Sub.C1 rfl (Sub.C1 rfl (Sub.C1 rfl Sub.nil))))) ⟨Nat.zero_le _, rfl, hS⟩ ?_)
  clear hS hN
  rintro ⟨i, S, v, xs⟩ m1 ⟨hi, hl2, hS⟩
  dsimp only at hi hl2 hS ⊢
  have hN := hb
  refine go ?_
  rcases Nat.eq_or_lt_of_le hi with hin | hin
  · have hd : decide ((i : Int) < (r.xs.length : Int)) = false := decide_eq_false (by omega)
    rw [hd]
    refine go ?_
    refine WP.exit ?_
    (with_reducible repeat (first | refine QN.tx ?_ | refine QN.bx ?_ | refine QN.B1 ?_ | refine QN.N1 ?_))
    refine go ?_
    obtain ⟨A', c', hv', _⟩ := Ev.Own.shape (show Ev.Own m1 S 176 1 v i xs from hS.mem (A := ownA S 176 1 v i xs) (zS ..))
    exact QN.ret1 rfl rfl ⟨_, rfl, _, ⟨⟨A', i, c', hv'⟩, rfl⟩, hS.tail⟩
  · have hd : decide ((i : Int) < (r.xs.length : Int)) = true := decide_eq_true (by omega)
    rw [hd]
    have hr' : ownA r.S 176 1 r.v r.xs.length (r.xs.map pA) ∈ ownA S 176 1 v i xs :: L := zO _ hr
    obtain ⟨g, c', hv', _, _, _⟩ := hS.ownAt hr' (by omega)
    have hsl := Rw.sl hS (r := r) (zO _ hr)
    rw [hv] at hv' hsl
    cases hv'
    obtain ⟨x, hx'⟩ : ∃ x, r.xs[i]? = some x := ⟨_, List.getElem?_eq_getElem hin⟩
    have hx1 : (r.xs.map pA)[i * 1]? = some (pA x) := by rw [Nat.mul_one, List.getElem?_map, hx']; rfl
    refine go ?_
    refine RL.ldE T_ok hsl hx1 rfl rfl rfl rfl rfl rfl ?_
    refine go ?_
    obtain ⟨o, ho⟩ := twE_get ps (some x)
    have hl : Lives LvP (some x) (twE ps) m1 := fun w hs => by
      obtain ⟨t, cs, h1⟩ := hx x (List.mem_of_getElem? hx')
      refine ⟨LvP.blk (hS.mem (zO _ h1)) w hs, fun p hp' => ?_⟩
      obtain ⟨y, hy, rfl⟩ := List.mem_map.1 hp'
      obtain ⟨t, cs, h1⟩ := hp y hy
      exact LvP.blk (hS.mem (zO _ h1)) w hs
    refine RL.lookupL (v := ptrE o) (k := some x) (ok := false) T_ok nodeK rfl rfl rfl rfl rfl rfl (hM _ _ (hS.mem (zO _ hA))) hl ?_ rfl ?_
    · exact ho
    refine go ?_
    refine RL.append1M T_ok hS [.tmp 16] [ptrE o] rfl rfl rfl rfl rfl rfl rfl rfl rfl rfl .head (by intro u hu; simp only [List.mem_singleton] at hu; subst hu; rfl) (by intro u hu; simp only [List.mem_singleton] at hu; subst hu; rfl) (Nat.le_trans (show i + 1 ≤ 1000000 by omega) (by decide)) (by show (i + 1) * 8 ≤ _; omega) ?_
    clear hS hsl
    intro b v' m S' hS
    refine ⟨_, rfl, ?_⟩
    refine go ?_
    refine QN.round (i + 1, S', v', xs ++ [ptrE o]) (Sub.C1 rfl (Sub.C1 rfl (Sub.C1 rfl (Sub.C1 rfl (Sub.C1 ?_ Sub.nil))))) ⟨by omega, by simp [hl2], hS⟩ (by dsimp only; omega)
    show some (Value.int .i64 (IntKind.i64.wrap ((i : Int) + 1))) = some (.int .i64 ((i + 1 : Nat) : Int))
    rw [wrap_i64_in _ (by omega) (by omega)]; simp
end Go.Proofs.YtgpgladbdoimdaaGreatDoor
end
section
namespace Go.Ids
instance (x : Rng) (c k : Nat) : Decidable (x.has c k) := by unfold Rng.has; infer_instance
instance (l : List Rng) (c k : Nat) : Decidable (mem l c k) := by unfold mem; infer_instance
end Go.Ids
end
section
namespace Go.Ev
open Go.RowKit
def loopQD {X : Type} (E : X → Env) (Ds : X → List Deferred) (ro : Option Nat) (I : X → World → Prop) (μ : X → Nat) (n : Nat) (x : X) (a : Act) (w : World) : Prop :=
  ∃ x' m', Fits n (E x') ⟨Ds x', ro⟩ a ∧ Sim m' w ∧ I x' m' ∧ μ x' < μ x
section
variable {P : Program} {Q : Exit → Act → World → Prop} {c : Code} {n : Nat} {e : Env} {m : World} {ro : Option Nat} {ds : List Deferred}
theorem WP.loopD {X : Type} (E : X → Env) (Ds : X → List Deferred) (I : X → World → Prop) (μ : X → Nat) (x0 : X) (hd : Ds x0 = ds) (hs : Sub (E x0) e) (h0 : I x0 m)
    (round : ∀ x m, I x m → WP P c (Exit.then (loopQD E Ds ro I μ n x) Q) n (E x) ⟨Ds x, ro⟩ m) : WP P (.loop c) Q n e ⟨ds, ro⟩ m := by
  subst hd
  intro a w hf hw b k cs hro hb hr
  have key : ∀ (k' : Nat) (x : X) (a : Act) (w m : World), μ x = k' → Fits n (E x) ⟨Ds x, ro⟩ a → Sim m w → I x m →
      ∃ ex a' w', Q ex a' w' ∧ ArrivesIn (Machine.fenced P (fenceR ro)) P (lone (b.atR a (.code c :: .inLoop c :: k)) cs w) b k cs ex a' w' := by
    intro k'
    induction k' using Nat.strongRecOn with
    | _ k' ih =>
      intro x a w m hk hfa hwa hI
      obtain ⟨ex, a₁, w₁, hq, harr⟩ := round x m hI a w hfa hwa b (.inLoop c :: k) cs hro hb hr
      cases ex with
      | normal =>
        obtain ⟨x', m', hfx, hsx, hIx, hlt⟩ := hq
        obtain ⟨e₂, a₂, w₂, hq₂, harr₂⟩ := ih (μ x') (hk ▸ hlt) x' a₁ w₁ m' rfl hfx hsx hIx
        exact ⟨e₂, a₂, w₂, hq₂, .of_steps (StepsIn.trans harr (.one (fenced_calm hb hr rfl) stepR_inLoop)) harr₂⟩
      | exit id => exact ⟨_, a₁, w₁, hq, .pass (x := .inLoop c) rfl (fun _ _ => .inl (by simp)) harr⟩
      | goto l => exact ⟨_, a₁, w₁, hq, .pass (x := .inLoop c) rfl (fun _ _ => .inl (by simp)) harr⟩
      | ret => exact ⟨_, a₁, w₁, hq, .pass (x := .inLoop c) rfl (fun _ _ => .inl (by simp)) harr⟩
      | panic ch => exact ⟨_, a₁, w₁, hq, .pass (x := .inLoop c) rfl (fun _ _ => .inl (by simp)) harr⟩
      | outgrown => exact ⟨_, a₁, w₁, hq, .pass (x := .inLoop c) rfl (fun _ _ => .inl (by simp)) harr⟩
  obtain ⟨ex, a', w', hq, harr⟩ := key _ x0 a w m rfl (hf.sub hs) hw h0
  exact ⟨ex, a', w', hq, .of_steps (.one (fenced_calm hb hr rfl) stepR_loop) harr⟩
theorem QN.roundD {X : Type} {E : X → Env} {Ds : X → List Deferred} {I : X → World → Prop} {μ : X → Nat} {x : X} (x' : X) (hd : Ds x' = ds) (hs : Sub (E x') e) (hI : I x' m) (hlt : μ x' < μ x) :
    QN (Exit.then (loopQD E Ds ro I μ n x) Q) .normal n e ⟨ds, ro⟩ m := fun _ _ hf hw => ⟨x', m, by rw [hd]; exact hf.sub hs, hw, hI, hlt⟩
def marks (Bs : List (Nat × Loop)) : List Deferred := Bs.map fun b => { target := .collected b.1, args := #[] }
def lps (Bs : List (Nat × Loop)) : List Asn := Bs.map fun b => lpA b.1 b.2
theorem QN.leaveTs {fn : Func} {post : Ending → World → Prop} {m0 : World} {M0 X : List Nat} {H : List Asn} {Bs : List (Nat × Loop)} {r : Value} {x : Exit} (hx : x = .ret ∨ x = .normal) (hS : Tr m0 M0 X m (lps Bs ++ H))
    (h : ∀ m', Tr m0 M0 X m' H → Res P fn n e ⟨marks Bs, none⟩ m' r ∧ post (.returned r) m') : QN (bodyQM P fn post) x n e ⟨marks Bs, none⟩ m := by
  intro a w hf hs
  have key : ∀ (Cs : List (Nat × Loop)) (m w : World), Sim m w → Tr m0 M0 X m (lps Cs ++ H) → LeavesInM Fence.wide 0 P fn a.tmps (fun e w' => ∃ m', Sim m' w' ∧ post e m') (marks Cs) .returning w := by
    intro Cs
    induction Cs with
    | nil =>
      intro m w hs hS
      obtain ⟨h1, h2⟩ := h m hS
      exact ⟨r, h1 a _ hf hs, _, hs, h2⟩
    | cons b Cs ih =>
      intro m w hs hS
      have hk := (Tr.recGet (F := []) hS).1
      have hkw : w.heap[b.1]? = some (.deferred (some [])) := by rw [hs.heap]; exact hk
      exact ⟨by simp, .inl ⟨b.1, _, rfl, run_takeDeferred hkw, ih (m.putObj b.1 (.deferred none)) _ (hs.putObj _ _) hS.leave⟩⟩
  have k := key Bs m w hs hS
  have hd : a.defers = marks Bs := hf.defers
  rw [← hd] at k
  rcases hx with rfl | rfl
  · exact k
  · exact k
theorem Res.none {fn : Func} {D : Fr} (hr : fn.results = #[]) : Res P fn n e D m (.tuple #[]) := fun a w _ _ => results_none hr a.tmps P w
end
end Go.Ev
end
section
namespace Go.Proofs.YtgpgladbdoimdaaGreatDoor
open Go.ChangeShapes Go.WideShapes Go.ChangeAt Go.RowKit Go.Ev Go.Ids Go.SeqP
set_option maxRecDepth 20000
set_option maxHeartbeats 1000000
def rowF : Nat → Nat → Fo
  | _, 0 => .nil
  | k, n + 1 => .cons k .nil .nil (rowF (k + 1) n)
theorem rowF_flat : ∀ n k, (rowF k n).flat = List.range' k n
  | 0, _ => rfl
  | n + 1, k => by simp [rowF, Fo.flat, rowF_flat n, List.range'_succ]
theorem rowF_at : ∀ n k {i : Nat} {p0 : Option Nat} {sd : Bool} {p s a b}, Fo.At (rowF k n) p0 sd i p s a b → a = .nil
  | 0, _, _, _, _, _, _, _, _, h => by cases h
  | n + 1, k, _, _, _, _, _, _, _, h => by
    rcases h with ⟨_, _, _, rfl, _⟩ | h | h | h
    · rfl
    · exact h.elim
    · exact h.elim
    · exact rowF_at n (k + 1) h
def flQ (us : List Un) (ad : List Nat) : Sq := ⟨⟨us, rowF 0 us.length⟩, ad, false⟩
theorem flQ_units (us : List Un) (ad : List Nat) : (flQ us ad).units = us := by
  apply List.ext_getElem?
  intro i
  simp only [flQ, Us.units, rowF_flat, List.getElem?_map]
  by_cases h : i < us.length
  · simp [h, Us.u, List.getD_eq_getElem?_getD]
  · rw [List.getElem?_eq_none (by simpa using h), List.getElem?_eq_none (by omega)]; rfl
theorem flQ_ok {us : List Un} {ad : List Nat} (h1 : (us.map (·.id)).Nodup) (h2 : ∀ u ∈ us, u.id.right = true) : (flQ us ad).Ok where
  nd := by simp only [flQ, rowF_flat]; exact List.nodup_range'
  mem := fun i => by simp [flQ, rowF_flat, List.mem_range']
  ids := h1
  right := h2
  lef := fun i p s a b h => by
    have := rowF_at _ _ h
    subst this
    exact .nil
structure Nf where
  a : Nat
  u : Un
  p : Option Nat
  l : Value
  r : Value
  sz : Nat
def Nf.A (d : Nf) : Asn := blkA d.a 178 (nC d.u d.p d.l d.r d.sz)
structure FOk (q : Sq) (fr : Bool) (at_ : List (Idn × Value)) (ord : Rw) (N : List Nf) : Prop where
  o : ord.xs = q.F.flat.map q.a
  ad : N.map (·.a) = q.ad
  us : N.map (·.u) = q.us
  ok : q.Ok
  few : q.us.length ≤ 1000000
  f : fr = true → AtOk q at_
abbrev flH (q : Sq) (s ra rt : Nat) (fr : Bool) (at_ : List (Idn × Value)) (ord : Rw) (rv : Value) (N : List Nf) (F : List Asn) : List Asn := blkA s 175 [.map (some ra), ord.v, rv, .map (some rt), .bool fr] :: mapA ra iV q.allE :: mapA rt iV at_ :: ord.A :: (N.map Nf.A ++ F)
def flPr (s : Nat) (q : Sq) (L : List Asn) : Prop := ∃ ra rt fr at_ ord rv N, L = flH q s ra rt fr at_ ord rv N [] ∧ FOk q fr at_ ord N
abbrev flatA (S : List Nat) (s : Nat) (q : Sq) : Asn := exA S (flPr s q)
theorem fl_open {m0 m : World} {M0 X : List Nat} {F : List Asn} {S : List Nat} {s : Nat} {q : Sq} (h : Tr m0 M0 X m (flatA S s q :: F)) : ∃ ra rt fr at_ ord rv N, FOk q fr at_ ord N ∧ Tr m0 M0 X m (flH q s ra rt fr at_ ord rv N F) := by
  obtain ⟨L, ⟨ra, rt, fr, at_, ord, rv, N, rfl, k⟩, hS⟩ := h.open
  simp only [flH, List.cons_append, List.append_nil] at hS
  exact ⟨ra, rt, fr, at_, ord, rv, N, k, hS⟩
theorem fl_close {m0 m : World} {M0 X : List Nat} {F : List Asn} {s ra rt : Nat} {q : Sq} {fr : Bool} {at_ : List (Idn × Value)} {ord : Rw} {rv : Value} {N : List Nf} (k : FOk q fr at_ ord N)
    (h : Tr m0 M0 X m (flH q s ra rt fr at_ ord rv N F)) : ∃ S, Tr m0 M0 X m (flatA S s q :: F) :=
  ⟨_, Tr.close (L := flH q s ra rt fr at_ ord rv N []) (by simpa only [flH, List.cons_append, List.append_nil] using h) ⟨ra, rt, fr, at_, ord, rv, N, rfl, k⟩⟩
section
variable {q : Sq} {fr : Bool} {at_ : List (Idn × Value)} {ord : Rw} {N : List Nf}
theorem FOk.adl (h : FOk q fr at_ ord N) : q.ad.length = q.us.length := by rw [← h.ad, ← h.us, List.length_map, List.length_map]
theorem FOk.get (h : FOk q fr at_ ord N) (id : Idn) : (mget q.allE id).getD (.pointer none) = pO ((q.idx id).map q.a) := allE_get_aux id q.us q.ad h.adl.symm
theorem FOk.node (h : FOk q fr at_ ord N) {i : Nat} (hi : i < q.us.length) : ∃ d, d ∈ N ∧ d.a = q.a i ∧ d.u = q.u i := by
  have hl : N.length = q.us.length := by rw [← h.us, List.length_map]
  have hlt : i < N.length := by omega
  refine ⟨N[i], List.getElem_mem hlt, ?_, ?_⟩
  · simp [Sq.a, List.getD_eq_getElem?_getD, ← h.ad, List.getElem?_map, List.getElem?_eq_getElem hlt]
  · simp [Us.u, List.getD_eq_getElem?_getD, ← h.us, List.getElem?_map, List.getElem?_eq_getElem hlt]
theorem FOk.view (k : FOk q fr at_ ord N) {bx s : Nat} {c0 c2 c3 c4 : Value} {H : List Asn} (h1 : blkA bx 105 [pA s] ∈ H) (h2 : blkA s 175 [c0, ord.v, c2, c3, c4] ∈ H) (h3 : ord.A ∈ H) (h4 : ∀ A ∈ N.map Nf.A, A ∈ H) : SView q bx s c0 c2 c3 c4 ord H where
  bx := h1
  s := h2
  o := h3
  ox := k.o
  n := fun i hi => by
    obtain ⟨d, h6, h7, h8⟩ := k.node ((k.ok.mem i).1 hi)
    exact ⟨d.p, d.l, d.r, d.sz, h4 _ (h7 ▸ h8 ▸ List.mem_map.2 ⟨d, h6, rfl⟩)⟩
end
theorem flen_s (S : List Nat) (s : Nat) (q : Sq) : DoS Tryz.prog 87 [pA s] [flatA S s q] (fun v H => v = .int .i64 q.us.length ∧ ∃ S', H = [flatA S' s q]) := by
  intro m0 X hS
  obtain ⟨ra, rt, fr, at_, ord, ro, N, k, hS⟩ := fl_open hS
  have hn : ord.xs.length = q.us.length := by rw [k.o, List.length_map, k.ok.flen]
  obtain ⟨A, c, hv, hc⟩ := Rw.shape hS (r := ord) (by simp)
  refine FnE.enter ⟨_, Tryz.func87, by kernel_rfl, by kernel_rfl⟩ Tryz.func87 rfl rfl ?_
  refine go ?_
  obtain ⟨S', hS⟩ := fl_close k hS
  rw [hv]
  refine go ?_
  exact QN.ret1 rfl rfl ⟨_, rfl, [flatA S' s q], ⟨by rw [hn], _, rfl⟩, hS⟩
theorem findF_s (S : List Nat) (s : Nat) (q : Sq) (id : Idn) : DoS Tryz.prog 88 [pA s, iV id] [flatA S s q] (fun v H => v = .int .i64 (q.find id) ∧ ∃ S', H = [flatA S' s q]) := by
  intro m0 X hS
  obtain ⟨ra, rt, fr, at_, ord, ro, N, k, hS⟩ := fl_open hS
  refine FnE.enterM ⟨_, Tryz.func88, by kernel_rfl, by kernel_rfl⟩ Tryz.func88 rfl rfl ?_
  refine go ?_
  refine RL.boxS hS rfl rfl rfl ?_; (try clear hS); intro b1 m hS; refine ⟨_, rfl, ?_⟩
  refine go ?_
  refine RL.boxS hS rfl rfl rfl ?_; (try clear hS); intro b2 m hS; refine ⟨_, rfl, ?_⟩
  refine go ?_
  have hg := k.get id
  cases hi : q.idx id with
  | none =>
    rw [hi] at hg
    refine RH.lookup T_ok PanicOk.calm idK rfl (by kernel_rfl) rfl rfl rfl rfl rfl rfl rfl (by with_reducible repeat (first | exact zS .. | apply zO)) hg rfl ?_
    refine go ?_
    have he : q.find id = -1 := by simp [Us.find, hi]
    obtain ⟨S', hS'⟩ := fl_close k hS.tail.tail
    exact QN.leaveM0 (.inl rfl) (Res.tmp rfl rfl) ⟨_, rfl, _, ⟨he ▸ rfl, S', rfl⟩, hS'⟩
  | some i =>
    rw [hi] at hg
    have hlt := (Us.idx_some hi).1
    have he : q.find id = q.place i := by simp [Us.find, hi]
    refine RH.lookup T_ok PanicOk.calm idK rfl (by kernel_rfl) rfl rfl rfl rfl rfl rfl rfl (by with_reducible repeat (first | exact zS .. | apply zO)) hg rfl ?_
    refine go ?_
    cases fr with
    | true =>
      have hat := k.f rfl _ _ (k.ok.place_get hlt)
      rw [(Us.idx_some hi).2] at hat
      refine go ?_
      refine RH.lookup (v := .int .i64 (q.place i)) T_ok PanicOk.calm idK rfl (by kernel_rfl) rfl rfl rfl rfl rfl rfl rfl (by with_reducible repeat (first | exact zS .. | apply zO)) (by rw [hat]; rfl) rfl ?_
      refine go ?_
      obtain ⟨S', hS'⟩ := fl_close k hS.tail.tail
      exact QN.leaveM0 (.inl rfl) (Res.tmp rfl rfl) ⟨_, rfl, _, ⟨he ▸ rfl, S', rfl⟩, hS'⟩
    | false =>
      refine go ?_
      refine RL.callM (fi := []) (ca := []) hS (all_s s) rfl rfl rfl rfl Sels.nil ?_
      (try clear hS); rintro _ m3 _ ⟨bx, rfl, rfl⟩ hS; simp only [zC, zN] at hS; refine ⟨_, rfl, ?_⟩
      refine go ?_
      have hbx : q.F.flat.length ≤ 1000000 := by rw [k.ok.flen]; exact k.few
      refine WP.rangeT (β := Nat) (fun x : Nat × Un => [.int .i64 x.1, uV x.2]) rfl (all1_t q bx s (.map (some ra)) ro (.map (some rt)) (.bool false) ord hbx) ⟨_, Tryz.func90, by kernel_rfl, by kernel_rfl⟩ hS
        (fun pre H => ∃ at', H = blkA bx 105 [pA s] :: blkA b2 30 (iC id) :: blkA b1 105 [pA s] :: flH q s ra rt false at' ord ro N [] ∧
          ∀ k j : Nat, k < pre.length → q.F.flat[k]? = some j → mget at' (q.u j).id = some (.int .i64 k)) (fun _ _ _ => False) ⟨at_, rfl, fun _ _ h => (by simp at h)⟩ ?_ _ (fun _ => rfl) (fun _ => rfl)
        (fun x b => [(2, pA b1), (3, .pointer (some ⟨b2, 0, none⟩)), (4, .int .i64 0), (5, .int .i64 x.1), (6, pA b)]) (fun x b G => G = [blkA b 101 (uC x.2)]) ?_ ?_ ?_ ?_
      · rintro pre H C ⟨at', rfl, _⟩
        exact k.view (by simp) (by simp) (by simp) (fun A hA => by simp [hA])
      · intro l C pre x G m1 H1 _ _ hS
        refine go ?_
        refine RL.allocS T_ok rfl hS rfl rfl ?_; (try clear hS); intro b m hS; refine ⟨_, rfl, ?_⟩
        refine go ?_
        refine RL.ssM T_ok hS rfl rfl rfl rfl rfl (by rfl) (by rfl) (by with_reducible repeat (first | exact Rep.head | apply Rep.tail)) (by rfl) ?_; (try clear hS); intro m hS
        refine go ?_
        exact QN.asgT b _ (Sub.C1 rfl (Sub.C1 rfl (Sub.C1 rfl (Sub.C1 rfl (Sub.C1 rfl Sub.nil))))) hS rfl
      · rintro l C pre x b _ G m2 _ ⟨at', rfl, ha⟩ ⟨hx1, hx2⟩ rfl hS
        have hS := hS.mid
        simp only [zC, zN] at hS
        obtain ⟨i, hi1, hi2⟩ : ∃ i, q.F.flat[pre.length]? = some i ∧ q.u i = x.2 := by simpa [Us.units] using hx2
        refine go ?_
        refine RH.mapUpdateF (k := x.2.id) (v := .int .i64 x.1) T_ok hS idK rfl (by kernel_rfl) rfl rfl rfl rfl rfl rfl rfl (by with_reducible repeat (first | exact zS .. | apply zO)) (by with_reducible repeat (first | exact Rep.head | apply Rep.tail)) rfl (by kernel_rfl) ?_
        intro m hS
        refine QN.calm ?_
        (with_reducible repeat (first | refine QN.B1 ?_ | refine QN.N1 ?_))
        refine QN.roundT (hS.tail.perm (List.perm_append_comm (l₁ := C :: blkA bx 105 [pA s] :: blkA b2 30 (iC id) :: blkA b1 105 [pA s] :: flH q s ra rt false (mset at' x.2.id (.int .i64 x.1)) ord ro N []))) ⟨mset at' x.2.id (.int .i64 x.1), rfl, ?_⟩
        · rw [List.length_append, ← hi2, hx1]; exact atOk_step k.ok hi1 ha
      · rintro B r xs m' _ hl ⟨at', rfl, ha⟩ hS
        refine go ?_
        refine RL.storeM T_ok hS rfl rfl rfl rfl (by rfl) (by rfl) (by with_reducible repeat (first | exact Rep.head | apply Rep.tail)) (by rfl) ?_; (try clear hS); intro m hS
        have hat := ha _ _ (by rw [hl, k.ok.ulen]; exact k.ok.place_lt hlt) (k.ok.place_get hlt)
        rw [(Us.idx_some hi).2] at hat
        refine go ?_
        refine RH.lookup (v := .int .i64 (q.place i)) T_ok PanicOk.calm idK rfl (by kernel_rfl) rfl rfl rfl rfl rfl rfl rfl (by with_reducible repeat (first | exact zS .. | apply zO)) (by rw [hat]; rfl) rfl ?_
        refine go ?_
        refine QN.leaveT (r := .int .i64 (q.place i)) (.inl rfl) hS (fun m' hS => ?_)
        obtain ⟨S', hS'⟩ := fl_close (fr := true) (at_ := at') ⟨k.o, k.ad, k.us, k.ok, k.few, fun _ a j hj => ha a j (by have := (List.getElem?_eq_some_iff.1 hj).1; rw [k.ok.flen] at this; rw [hl, k.ok.ulen]; exact this) hj⟩ hS.tail.tail.tail
        exact ⟨Res.tmp rfl rfl, ⟨_, rfl, _, ⟨he ▸ rfl, S', rfl⟩, hS'⟩⟩
      · exact fun _ _ _ _ _ _ h _ => h.elim
end Go.Proofs.YtgpgladbdoimdaaGreatDoor
end
section
namespace Go.Proofs.YtgpgladbdoimdaaGreatDoor
open Go.Ids Go.SeqP
namespace Us
variable {q : Us} {x : Un}
theorem Ok.place_of (h : q.Ok) {i p : Nat} (hp : q.F.flat[p]? = some i) : q.place i = p := by
  have h1 := h.place_get ((h.mem i).1 (List.mem_of_getElem? hp))
  exact (List.getElem?_inj (List.getElem?_eq_some_iff.1 h1).1 h.nd).1 (h1.trans hp.symm)
theorem insAt_get {α : Type} {x : α} {l : List α} {p i : Nat} (hp : p ≤ l.length) : (insAt p x l)[i]? = if i < p then l[i]? else if i = p then some x else l[i - 1]? := by
  unfold insAt
  have ht : (l.take p).length = p := by rw [List.length_take]; omega
  by_cases h1 : i < p
  · rw [if_pos h1, List.getElem?_append_left (by omega), List.getElem?_take, if_pos h1]
  · rw [if_neg h1, List.getElem?_append_right (by omega), ht]
    by_cases h2 : i = p
    · subst h2; simp
    · rw [if_neg h2]
      obtain ⟨j, rfl⟩ : ∃ j, i = p + j + 1 := ⟨i - p - 1, by omega⟩
      rw [show p + j + 1 - p = j + 1 by omega, List.getElem?_cons_succ, List.getElem?_drop]
      congr 1
theorem Ok.put_place (h : q.Ok) (hr : x.id.right = true) (hn : q.idx x.id = none) : (q.put x).place q.us.length = q.pl x ∧ ∀ i, i < q.us.length → (q.put x).place i = if q.place i < q.pl x then q.place i else q.place i + 1 := by
  obtain ⟨pa, sd, k, up, g, _⟩ := h.grown x
  have h' := h.put hr hn
  refine ⟨h'.place_of ?_, fun i hi => h'.place_of ?_⟩
  · rw [g.flat, insAt_get g.le]; simp
  · rw [g.flat, insAt_get g.le]
    have hp := h.place_get hi
    by_cases h1 : q.place i < q.pl x
    · rw [if_pos h1, if_pos h1]; exact hp
    · rw [if_neg h1, if_neg (by omega), if_neg (by omega), Nat.add_sub_cancel]; exact hp
theorem Ok.pl_le (h : q.Ok) (hm : q.may x = true) {r : Nat} (hr : q.idx x.r = some r) : q.pl x ≤ q.place r := by
  obtain ⟨hrl, hrid⟩ := idx_some hr
  simp only [Us.may, Bool.and_eq_true, Bool.or_eq_true, decide_eq_true_eq] at hm
  obtain ⟨⟨⟨_, hl⟩, _⟩, hf⟩ := hm
  cases hlf : q.lefty x with
  | some r' =>
    have : r' = r := by
      unfold Us.lefty at hlf
      rw [hr] at hlf
      simp only at hlf
      split at hlf
      · exact (Option.some.inj hlf).symm
      · split at hlf
        · exact (Option.some.inj hlf).symm
        · cases hlf
    subst this
    unfold Us.pl
    simp only [hlf]
    omega
  | none =>
    unfold Us.lefty at hlf
    simp only [hr] at hlf
    cases hli : q.idx x.l with
    | none => simp [hli] at hlf
    | some l =>
      obtain ⟨hll, hlid⟩ := idx_some hli
      simp only [hli] at hlf
      have hun : l ∉ (Fo.path [] q.F r).tail := fun hh => by rw [if_pos hh] at hlf; cases hlf
      have hlr : q.place l < q.place r := by
        have hl0 : x.l ≠ ⟨0, 0⟩ := fun hh => by rw [hh, h.none_id] at hli; cases hli
        have hr0 : x.r ≠ ⟨0, 0⟩ := fun hh => by rw [hh, h.none_id] at hr; cases hr
        rcases hf with (hf | hf) | hf
        · exact absurd hf hl0
        · exact absurd hf hr0
        · simp only [Us.find, hli, hr] at hf; omega
      obtain ⟨p, s, a, b, hA⟩ := Fo.At.of_mem none false ((h.mem l).2 hll)
      have hpl : q.pl x = q.place l + 1 + Fo.pre (q.kR b.roots x) b := by
        have : q.lefty x = none := by simp [Us.lefty, hr, hli, hun]
        simp only [Us.pl, this, hli, At.subs hA h.nd]
      have hle := Fo.pre_le (q.kR b.roots x) b
      rw [hpl]
      obtain ⟨pp, ss, ra, rb, hB⟩ := Fo.At.of_mem none false ((h.mem r).2 hrl)
      obtain ⟨t, e1, _, _⟩ := hB.path (up := []) h.nd (by simp)
      have hnp : l ∉ Fo.path [] q.F r := by
        rw [e1]
        intro hh
        rcases List.mem_cons.1 hh with rfl | hh
        · omega
        · exact hun (by rw [e1]; exact hh)
      have hnb : r ∉ b.flat := fun hh => hnp ((hA.onPath (up := []) h.nd (by simp) ((h.mem r).2 hrl)).2 (.inr (.inr hh)))
      obtain ⟨u, v, e, _⟩ := hA.split h.nd
      have h1 : q.F.flat[u.length + a.sz]? = some l := by
        rw [e, List.getElem?_append_right (by omega), List.getElem?_append_right (by simp [Fo.sz])]
        simp [Fo.sz]
      have h2 := h.place_of h1
      have h3 := h.place_get hrl
      rcases Nat.lt_or_ge (q.place r) (q.place l + 1 + b.sz) with hc | hc
      · exfalso
        apply hnb
        rw [e, List.getElem?_append_right (by omega), List.getElem?_append_right (by simp only [Fo.sz] at h2; omega)] at h3
        obtain ⟨j, hj⟩ : ∃ j, q.place r - u.length - a.flat.length = j + 1 := ⟨q.place r - u.length - a.flat.length - 1, by simp only [Fo.sz] at h2; omega⟩
        rw [hj, List.getElem?_cons_succ, List.getElem?_append_left (by simp only [Fo.sz] at h2 hc; omega)] at h3
        exact List.mem_of_getElem? h3
      · omega
theorem Ok.may_next (h : q.Ok) (hm : q.may x = true) (hr : (nx x 1).id.right = true) (hn : (q.put x).idx (nx x 1).id = none) : (q.put x).may (nx x 1) = true := by
  have hri : x.id.right = true := by simp only [Us.may, Bool.and_eq_true] at hm; exact hm.1.1.1.1
  have hid : q.idx x.id = none := by simp only [Us.may, Bool.and_eq_true, Option.isNone_iff_eq_none] at hm; exact hm.1.1.1.2
  have hl : (nx x 1).l = x.id := by simp [nx]
  have hrr : (nx x 1).r = x.r := by simp [nx]
  have hil : (q.put x).idx x.id = some q.us.length := by rw [put_idx hid, if_pos rfl]
  obtain ⟨p1, p2⟩ := h.put_place hri hid
  unfold Us.may
  rw [hr, hn, hl, hrr]
  have hth : q.there x.r = true := by simp only [Us.may, Bool.and_eq_true] at hm; exact hm.1.2
  simp only [Us.there, hil, Option.isNone_none, Option.isSome_some, Bool.or_true, Bool.true_and, Bool.and_eq_true, Bool.or_eq_true, decide_eq_true_eq] at hth ⊢
  by_cases h0 : x.r = ⟨0, 0⟩
  · exact ⟨.inl h0, .inl (.inr h0)⟩
  · obtain ⟨r, hir⟩ := Option.isSome_iff_exists.1 (hth.resolve_left h0)
    have hne : x.id ≠ x.r := fun hh => by rw [hh, hir] at hid; cases hid
    have hir' : (q.put x).idx x.r = some r := by rw [put_idx hid, if_neg hne]; exact hir
    refine ⟨.inr (by rw [hir']; rfl), .inr ?_⟩
    have hle := h.pl_le hm hir
    simp only [Us.find, hil, hir', p1, p2 r (idx_some hir).1]
    rw [if_neg (by omega)]
    omega
theorem Ok.leaf_lefty (h : q.Ok) {l : Nat} {p : Option Nat} {s : Bool} (hA : Fo.At q.F none false l p s .nil .nil) (hl : q.idx x.l = some l) (hr : q.idx x.r ≠ some l) : q.lefty x = none := by
  unfold Us.lefty
  cases hi : q.idx x.r with
  | none => rfl
  | some r =>
    simp only [hl]
    rw [if_neg]
    intro hm
    rcases (hA.onPath (up := []) h.nd (by simp) ((h.mem r).2 (idx_some hi).1)).1 (List.mem_of_mem_tail hm) with rfl | hh | hh
    · exact hr hi
    · simp [Fo.flat] at hh
    · simp [Fo.flat] at hh
theorem puts_nx (q : Us) (x : Un) : ∀ n, q.puts x (n + 1) = (q.put x).puts (nx x 1) n
  | 0 => rfl
  | n + 1 => by
    have ih := puts_nx q x n
    have e : nx x (n + 1) = nx (nx x 1) n := by
      cases n with
      | zero => rfl
      | succ n => simp [nx]; omega
    show (q.puts x (n + 1)).put (nx x (n + 1)) = _
    rw [ih, e]; rfl
theorem Ok.runs_next (h : q.Ok) {n : Nat} (r : q.Runs x (n + 2)) : (q.put x).Runs (nx x 1) (n + 1) := by
  have hid : q.idx x.id = none := by simpa using r.new 0 (by omega)
  have hnew : ∀ i, i < n + 1 → (q.put x).idx ⟨x.id.c, x.id.k + 1 + i⟩ = none := fun i hi => by
    rw [put_idx hid, if_neg (fun hh => by have := congrArg Idn.k hh; simp only at this; omega)]
    have := r.new (i + 1) (by omega)
    rwa [show x.id.k + (i + 1) = x.id.k + 1 + i by omega] at this
  refine ⟨by omega, ?_, fun i hi => ?_, h.may_next r.may (r.rightN (by omega)) ?_⟩
  · have := r.top
    rw [nx_id]; simp only; omega
  · rw [nx_id]; exact hnew i hi
  · rw [nx_id]; simpa using hnew 0 (by omega)
end Us
end Go.Proofs.YtgpgladbdoimdaaGreatDoor
end
section
namespace Go.Proofs.YtgpgladbdoimdaaGreatDoor
open Go.Ids Go.SeqP
namespace Us
variable {q : Us} {x : Un}
theorem Ok.ids_nodup (h : q.Ok) : (q.units.map (·.id)).Nodup := by
  rw [Us.units, List.map_map]
  refine List.Pairwise.map _ (fun i j hij => hij) ?_
  refine List.Pairwise.imp_of_mem (R := fun a b => a ≠ b) (fun {i j} hi hj hij hh => hij ?_) h.nd
  have h1 := h.idx_of ((h.mem i).1 hi)
  have h2 := h.idx_of ((h.mem j).1 hj)
  simp only [Function.comp_apply] at hh
  rw [hh, h2] at h1
  exact (Option.some.inj h1).symm
end Us
end Go.Proofs.YtgpgladbdoimdaaGreatDoor
end
section
namespace Go.Proofs.YtgpgladbdoimdaaGreatDoor
open Go.ChangeShapes Go.WideShapes Go.ChangeAt Go.RowKit Go.Ev Go.Ids Go.SeqP
set_option maxRecDepth 20000
set_option maxHeartbeats 1000000
theorem twE_set (ps : List (Nat × Nat)) (a x : Nat) : ∃ ps', mset (twE ps) (some a) (pA x) = twE ps' ∧ ∀ p ∈ ps', p = (a, x) ∨ p ∈ ps := by
  induction ps with
  | nil => exact ⟨[(a, x)], by simp [twE, mset], fun p hp => .inl (by simpa using hp)⟩
  | cons p ps ih =>
    by_cases h : p.1 = a
    · exact ⟨(a, x) :: ps, by simp [twE, mset, h], fun z hz => by
        rcases List.mem_cons.1 hz with rfl | hz
        · exact .inl rfl
        · exact .inr (zO _ hz)⟩
    · obtain ⟨ps', h1, h2⟩ := ih
      refine ⟨p :: ps', ?_, fun z hz => ?_⟩
      · simp only [twE, List.map_cons] at h1 ⊢
        rw [← h1]; simp [mset, h]
      · rcases List.mem_cons.1 hz with rfl | hz
        · exact .inr (zS ..)
        · rcases h2 z hz with h | h
          · exact .inl h
          · exact .inr (zO _ h)
abbrev cpH (s2 ra rm : Nat) (ov c2 c3 c4 : Value) (So : List Nat) (N : List Nf) (ps : List (Nat × Nat)) (Z : List Asn) : List Asn :=
  blkA s2 175 [.map (some ra), ov, c2, c3, c4] :: mapA ra iV (N.map fun d => (d.u.id, pA d.a)) :: mapA rm ptrE (twE ps) :: ownA So 176 1 ov N.length (N.map fun d => pA d.a) :: (N.map Nf.A ++ Z)
theorem at_par {f : Fo} {pa : Option Nat} {sd : Bool} {i : Nat} {p : Option Nat} {s : Bool} {a b : Fo} (h : Fo.At f pa sd i p s a b) : p = pa ∨ ∃ t ∈ f.flat, p = some t := by
  induction f generalizing pa sd with
  | nil => exact h.elim
  | cons k l r n il ir inn =>
    rcases h with ⟨_, h, _⟩ | h | h | h
    · exact .inl h
    · rcases il h with h | ⟨t, h1, h2⟩
      · exact .inr ⟨k, by simp [Fo.flat], h⟩
      · exact .inr ⟨t, by simp [Fo.flat, h1], h2⟩
    · rcases ir h with h | ⟨t, h1, h2⟩
      · exact .inr ⟨k, by simp [Fo.flat], h⟩
      · exact .inr ⟨t, by simp [Fo.flat, h1], h2⟩
    · rcases inn h with h | ⟨t, h1, h2⟩
      · exact .inl h
      · exact .inr ⟨t, by simp [Fo.flat, h1], h2⟩
theorem roots_len : ∀ f : Fo, f.roots.length ≤ f.flat.length
  | .nil => Nat.le_refl _
  | .cons k l r n => by have := roots_len n; simp only [Fo.roots, Fo.flat, List.length_append, List.length_cons]; omega
theorem at_len {f : Fo} {pa : Option Nat} {sd : Bool} {i : Nat} {p : Option Nat} {s : Bool} {a b : Fo} (h : Fo.At f pa sd i p s a b) : a.flat.length ≤ f.flat.length ∧ b.flat.length ≤ f.flat.length := by
  induction f generalizing pa sd with
  | nil => exact h.elim
  | cons k l r n il ir inn =>
    simp only [Fo.flat, List.length_append, List.length_cons]
    rcases h with ⟨_, _, _, rfl, rfl⟩ | h | h | h
    · omega
    · have := il h; omega
    · have := ir h; omega
    · have := inn h; omega
theorem sels_front : ∀ (O F : List Asn), Sels O (O ++ F) F
  | [], _ => .nil
  | _ :: O, F => .own .head (sels_front O F)
theorem rep_pre {A B : Asn} {H H' : List Asn} (h : Rep A B H H') : ∀ G : List Asn, Rep A B (G ++ H) (G ++ H')
  | [] => h
  | _ :: G => .tail (rep_pre h G)
theorem rep_nf {d d' : Nf} : ∀ {M : List Nf} {i : Nat}, M[i]? = some d → Rep d.A d'.A (M.map Nf.A) ((M.set i d').map Nf.A)
  | [], i, h => by simp at h
  | e :: M, 0, h => by
    simp only [List.getElem?_cons_zero, Option.some.injEq] at h
    subst h
    exact .head
  | e :: M, i + 1, h => .tail (rep_nf (M := M) (i := i) (by simpa using h))
theorem _root_.List.set_getElem_self_map {α β : Type} (f : α → β) {l : List α} {i : Nat} (h : i < l.length) : (l.map f).set i (f l[i]) = l.map f := by
  apply List.ext_getElem?
  intro k
  rw [List.getElem?_set]
  split
  · rename_i e
    subst e
    simp [h]
  · rfl
theorem allE_row : ∀ M : List Nf, (flQ (M.map (·.u)) (M.map (·.a))).allE = M.map fun d => (d.u.id, pA d.a)
  | [] => rfl
  | d :: M => by
    have h := allE_row M
    simp only [flQ, Sq.allE, List.map_cons, List.zip_cons_cons] at h ⊢
    rw [h]
theorem flQ_flat {us : List Un} {ad : List Nat} (h : ad.length = us.length) : (flQ us ad).F.flat.map (flQ us ad).a = ad := by
  apply List.ext_getElem?
  intro i
  simp only [flQ, rowF_flat, List.getElem?_map]
  by_cases hi : i < us.length
  · rw [List.getElem?_range' hi, List.getElem?_eq_getElem (by omega)]
    simp [Sq.a, List.getD_eq_getElem?_getD, List.getElem?_eq_getElem (show i < ad.length by omega)]
  · rw [List.getElem?_eq_none (by simpa using hi), List.getElem?_eq_none (by omega)]; rfl
theorem perm5 {α : Type} (a b c d e : α) : [a, b, c, d, e].Perm [e, b, d, a, c] :=
  (List.perm_append_comm (l₁ := [a, b, c, d]) (l₂ := [e])).trans (.cons _ ((List.Perm.swap ..).trans (.cons _ (List.perm_append_comm (l₁ := [a, c]) (l₂ := [d])))))
theorem seqcopy_s (S : List Nat) (s : Nat) (q : Sq) (htr : q.tr = true) : DoS Tryz.prog 86 [pA s] [seqA S s q] (fun v H => ∃ S1 S2 s2 ad, v = pA s2 ∧ H = [flatA S2 s2 (flQ q.units ad), seqA S1 s q]) := by
  intro m0 X hS
  refine FnE.enter ⟨_, Tryz.func86, by kernel_rfl, by kernel_rfl⟩ Tryz.func86 rfl rfl ?_
  refine go ?_
  refine RL.callM (fi := []) (ca := []) hS seqnew_s rfl rfl rfl rfl Sels.nil ?_
  clear hS
  rintro _ m _ ⟨Sn, s2, rfl, rfl⟩ hS
  simp only [zC, zN] at hS
  refine ⟨_, rfl, ?_⟩
  refine go ?_
  refine RL.makeMap hS ptrE rfl ?_
  clear hS
  intro rm m hS
  refine ⟨_, rfl, ?_⟩
  refine go ?_
  refine RL.allocS T_ok rfl hS rfl rfl ?_; (try clear hS); intro bt m hS; refine ⟨_, rfl, ?_⟩
  refine RL.storeM T_ok hS rfl rfl rfl rfl (by rfl) (by rfl) (by with_reducible repeat (first | exact Rep.head | apply Rep.tail)) (by rfl) ?_; (try clear hS); intro m hS
  obtain ⟨ra', rt', fr', at', ord', ro', N', k', hS⟩ := seq_open (hS.perm (List.perm_append_comm (l₁ := [_, _]) (l₂ := [_, _])))
  have hN' : N' = [] := List.map_eq_nil_iff.1 (show N'.map (·.a) = [] from k'.l.ad)
  have hxs : ord'.xs = [] := k'.o
  subst hN'
  obtain ⟨So, ov, oxs⟩ := ord'
  dsimp only at hxs
  subst hxs
  have hS : Tr m0 (ofps [seqA S s q]) X m (seqA S s q :: blkA s2 175 [.map (some ra'), ov, ro'.v, .map (some rt'), .bool fr'] :: mapA ra' iV ([] : List (Idn × Value)) :: mapA rt' iV at' :: ownA So 176 1 ov 0 [] :: ro'.A :: [blkA bt 214 [.map (some rm)], mapA rm ptrE (twE [])]) := hS.perm (List.perm_append_comm (l₁ := [_, _, _, _, _]) (l₂ := [_, _, _])|>.trans (.cons _ (List.perm_append_comm (l₁ := [_, _]) (l₂ := [_, _, _, _, _]))))
  obtain ⟨ra, rt, fr, at_, ord, ro, N, k, hS⟩ := seq_open hS
  obtain ⟨Z, hZ⟩ : ∃ Z, Z = blkA bt 214 [.map (some rm)] :: sqH q s ra rt fr at_ ord ro N [mapA rt' iV at'] := ⟨_, rfl⟩
  have hS : Tr m0 (ofps [seqA S s q]) X m (cpH s2 ra' rm ov ro'.v (.map (some rt')) (.bool fr') So [] [] Z) := by
    have h1 := hS.perm (((List.Perm.cons _ (.cons _ (perm5 ..))).append_left (_ :: _ :: _ :: _ :: _ :: ndL N)).trans (List.perm_append_comm_assoc _ [_, _, _, _, _] [_, _]))
    subst hZ
    exact Tr.drop (F := [ro'.A]) (by simpa using h1)
  clear k'
  obtain ⟨Ar, c, hv, hc⟩ := Rw.shape hS (r := ord) (by simp [hZ])
  have hN : blkA s 175 [.map (some ra), ord.v, ro.v, .map (some rt), .bool fr] ∈ Z := by simp [hZ]
  have hNt : blkA bt 214 [.map (some rm)] ∈ Z := by simp [hZ]
  have hlive : ∀ a ∈ q.ad, ∃ t cs, blkA a t cs ∈ Z := fun a ha => by
    rw [← k.l.ad] at ha
    obtain ⟨d, hd, rfl⟩ := List.mem_map.1 ha
    exact ⟨_, _, (by rw [hZ]; simp [(mem_ndL hd).1] : d.A ∈ Z)⟩
  refine go ?_
  rw [hv]
  refine go ?_
  have hn : ord.xs.length = q.us.length := by rw [k.o, List.length_map, k.ok.flen]
  refine (WP.loop (X := List Nat × Value × List Nf × List (Nat × Nat)) (fun z => [(0, pA s), (3, pA s2), (4, pA bt), (16, .slice Ar ord.xs.length c), (17, .int .i64 ord.xs.length), (18, .int .i64 z.2.2.1.length)])
    (fun z m' => z.2.2.1.length ≤ ord.xs.length ∧ z.2.2.1.map (·.u) = q.units.take z.2.2.1.length ∧ (∀ p ∈ z.2.2.2, p.1 ∈ q.ad ∧ p.2 ∈ z.2.2.1.map (·.a)) ∧ Tr m0 (ofps [seqA S s q]) X m' (cpH s2 ra' rm z.2.1 ro'.v (.map (some rt')) (.bool fr') z.1 z.2.2.1 z.2.2.2 Z)) (fun z => ord.xs.length - z.2.2.1.length) (So, ov, [], [])
    (Sub.C1 rfl (Sub.C1 rfl (Sub.C1 rfl (Sub.C1 rfl (Sub.C1 rfl (Sub.C1 rfl Sub.nil)))))) ⟨Nat.zero_le _, rfl, fun p hp => (by cases hp), hS⟩ ?_)
  clear hS
  rintro ⟨S1, v, M, ps⟩ m1 ⟨hi, hu, hps, hS⟩
  dsimp only at hi hu hps hS ⊢
  refine go ?_
  rcases Nat.eq_or_lt_of_le hi with hin | hin
  · have hd : decide ((M.length : Int) < (ord.xs.length : Int)) = false := decide_eq_false (by omega)
    rw [hd]
    refine go ?_
    refine WP.exit ?_
    (with_reducible repeat (first | refine QN.tx ?_ | refine QN.bx ?_ | refine QN.B1 ?_ | refine QN.N1 ?_))
    have hN' := List.mem_append_right (M.map Nf.A) hNt
    refine go ?_
    have hfr : (cpH s2 ra' rm v ro'.v (.map (some rt')) (.bool fr') S1 M ps Z).Perm (mapA rm ptrE (twE ps) :: blkA s2 175 [.map (some ra'), v, ro'.v, .map (some rt'), .bool fr'] :: mapA ra' iV (M.map fun d => (d.u.id, pA d.a)) :: ownA S1 176 1 v M.length (M.map fun d => pA d.a) :: (M.map Nf.A ++ Z)) := List.perm_middle (l₁ := [_, _])
    refine RL.rangeMap T_ok (hS.perm hfr) rfl rfl rfl rfl ?_
    clear hS
    intro it m hS
    refine ⟨_, rfl, ?_⟩
    refine go ?_
    obtain ⟨R, hR⟩ : ∃ R : List Nf → List Asn, R = fun M2 => blkA s2 175 [.map (some ra'), v, ro'.v, .map (some rt'), .bool fr'] :: mapA ra' iV (M.map fun d => (d.u.id, pA d.a)) :: ownA S1 176 1 v M.length (M.map fun d => pA d.a) :: M2.map Nf.A := ⟨_, rfl⟩
    have hS : Tr m0 (ofps [seqA S s q]) X m (mitA rm it ptrE (twE ps) (twE ps).length none :: (Z ++ R M)) := hS.perm (.cons _ (by
      rw [hR]
      exact (List.perm_append_comm (l₁ := _ :: _ :: _ :: M.map Nf.A) (l₂ := Z))))
    have hat : ∀ d ∈ N, ∃ j p s a b, Fo.At q.F none false j p s a b ∧ d.p = p.map q.a ∧ d.rl.xs = a.roots.map q.a ∧ d.rr.xs = b.roots.map q.a := fun d hd => by
      obtain ⟨j, hj, e⟩ := List.getElem_of_mem hd
      have hjl : j < q.us.length := by rw [← k.l.us, List.length_map]; exact hj
      obtain ⟨p, s, a, b, h⟩ := Fo.At.of_mem none false ((k.ok.mem j).2 hjl)
      obtain ⟨d', h1, h2, _, h3, h4⟩ := k.l.at_ htr _ _ _ _ _ h
      rw [List.getElem?_eq_getElem hj, e] at h1
      cases h1
      exact ⟨j, p, s, a, b, h, h2, h3, h4⟩
    have had : ∀ j ∈ q.F.flat, q.a j ∈ q.ad := fun j hj => by
      obtain ⟨d, _, h1, h2, _⟩ := k.l.get ((k.ok.mem j).1 hj)
      rw [← k.l.ad, ← h2]; exact List.mem_map.2 ⟨d, h1, rfl⟩
    refine (WP.loop (X := Nat × Option (Option Nat × Value) × List Nf) (fun z => [(0, pA s), (3, pA s2), (4, pA bt), (8, .func (.func 139) #[] #[pA bt]), (58, .pointer (some ⟨it, 0, none⟩))])
      (fun z m' => z.2.2.map (·.a) = M.map (·.a) ∧ z.2.2.map (·.u) = M.map (·.u) ∧ Tr m0 (ofps [seqA S s q]) X m' (mitA rm it ptrE (twE ps) z.1 z.2.1 :: (Z ++ R z.2.2))) (fun z => z.1) (_, none, M)
      (Sub.C1 rfl (Sub.C1 rfl (Sub.C1 rfl (Sub.C1 rfl (Sub.C1 rfl Sub.nil))))) ⟨rfl, rfl, hS⟩ ?_)
    clear hS
    rintro ⟨c1, lst, M2⟩ m2 ⟨hM1, hM2, hS⟩
    dsimp only at hM1 hM2 hS ⊢
    (with_reducible repeat (first | refine WP.S1 ?_ | refine WP.B1 ?_ | refine WP.R1 ?_))
    refine RL.nextMap hS rfl rfl (fun _ hS => ⟨_, rfl, ?_⟩) (fun p hp c' m hc' hS => ⟨_, rfl, ?_⟩)
    · refine go ?_
      refine WP.exit ?_
      (with_reducible repeat (first | refine QN.tx ?_ | refine QN.bx ?_ | refine QN.B1 ?_ | refine QN.N1 ?_))
      have hN := List.mem_append_left (R M2) hN
      refine go ?_
      refine RL.callM (fi := []) (ca := [pA bt]) hS (twins_s (mitA rm it ptrE (twE ps) c1 lst :: Z) (mitA rm it ptrE (twE ps) c1 lst) bt rm ps ro (by rw [k.r htr, List.length_map]; have h1 := roots_len q.F; have h2 := k.few; rw [k.ok.flen] at h1; omega) (zS ..) (fun m M h => MIt.map h) (zO _ hNt) (zO _ (by rw [hZ]; simp))
          (fun x hx => by
            rw [k.r htr] at hx
            obtain ⟨t, ht, rfl⟩ := List.mem_map.1 hx
            obtain ⟨ty, cs, h1⟩ := hlive _ (had t (Fo.roots_sub q.F t ht))
            exact ⟨ty, cs, zO _ h1⟩)
          (fun y hy => by
            obtain ⟨ty, cs, h1⟩ := hlive _ (hps y hy).1
            exact ⟨ty, cs, zO _ h1⟩)) rfl rfl rfl rfl (sels_front (_ :: Z) (R M2)) ?_
      clear hS
      rintro _ m _ ⟨⟨A1, n1, k1, rfl⟩, rfl⟩ hS
      refine ⟨_, rfl, ?_⟩
      rw [hR] at hS
      dsimp only at hS
      have hS := hS.perm (List.perm_append_comm (l₁ := _ :: Z))
      simp only [List.cons_append] at hS
      refine go ?_
      refine RL.storeM T_ok hS rfl rfl rfl rfl (by rfl) (by rfl) (by with_reducible repeat (first | exact Rep.head | apply Rep.tail)) (by rfl) ?_; (try clear hS); intro m hS
      refine go ?_
      obtain ⟨Ao, co, hvo, hco⟩ := Ev.Own.shape (show Ev.Own m S1 176 1 v M.length (M.map fun d => pA d.a) from hS.mem (A := ownA S1 176 1 v M.length (M.map fun d : Nf => pA d.a)) (by simp))
      rw [hvo]
      refine go ?_
      refine RL.storeM T_ok hS rfl rfl rfl rfl (by rfl) (by rfl) (by with_reducible repeat (first | exact Rep.head | apply Rep.tail)) (by rfl) ?_; (try clear hS); intro m hS
      refine go ?_
      have hul : q.units.length = M.length := by rw [Us.units, List.length_map, k.ok.flen]; omega
      have hu' : M.map (·.u) = q.units := by rw [hu, ← hul, List.take_length]
      have hall : (flQ q.units (M2.map (·.a))).allE = M.map fun d => (d.u.id, pA d.a) := by
        rw [hM1, ← hu']
        exact allE_row M
      have hl2 : M2.length = M.length := by simpa using congrArg List.length hM1
      have hok : FOk (flQ q.units (M2.map (·.a))) ((M.length : Int) == 0) at' ⟨S1, v, M.map (·.a)⟩ M2 := by
        refine ⟨?_, rfl, hM2.trans hu', flQ_ok k.ok.ids_nodup ?_, by show q.units.length ≤ _; rw [hul, hin, hn]; exact k.few, fun h => ?_⟩
        · show M.map (·.a) = _
          rw [hM1]
          exact (flQ_flat (by rw [List.length_map, hul])).symm
        · intro u hu2
          obtain ⟨i, hi1, rfl⟩ := List.mem_map.1 hu2
          have hlt := (k.ok.mem i).1 hi1
          exact k.ok.right _ (by simp only [Us.u, List.getD_eq_getElem?_getD, List.getElem?_eq_getElem hlt]; exact List.getElem_mem hlt)
        · have h0 : q.units.length = 0 := by rw [hul]; have := beq_iff_eq.1 h; omega
          intro a j hj
          exfalso
          have h1 := (List.getElem?_eq_some_iff.1 hj).1
          simp only [flQ, rowF_flat, List.length_range'] at h1
          omega
      have hoA : (⟨S1, v, M.map (·.a)⟩ : Rw).A = ownA S1 176 1 v M.length (M.map fun d => pA d.a) := by unfold Rw.A; rw [List.length_map, List.map_map]; rfl
      subst hZ
      obtain ⟨S5, hS⟩ := fl_close (s := s2) (ra := ra') (rt := rt') (rv := .slice A1 n1 k1) (F := mitA rm it ptrE (twE ps) c1 lst :: blkA bt 214 [.map (some rm)] :: sqH q s ra rt fr at_ ord ro N []) hok (by
        rw [flH, hall, hoA]
        exact hS.perm (.cons _ (.cons _ (((List.perm_middle (l₁ := _ :: _ :: _ :: _ :: _ :: _ :: _ :: ndL N) (l₂ := [])).append_left (_ :: M2.map Nf.A)).trans (List.perm_middle (l₁ := _ :: M2.map Nf.A))))))
      have hS := hS.perm (List.perm_append_comm (l₁ := [_, _, _]))
      obtain ⟨S6, hS⟩ := seq_close k (F := [flatA S5 s2 (flQ q.units (M2.map (·.a))), mitA rm it ptrE (twE ps) c1 lst, blkA bt 214 [.map (some rm)]]) (by simpa only [sqH, List.cons_append, List.append_assoc, List.nil_append] using hS)
      have hS := Tr.drop (F := [mitA rm it ptrE (twE ps) c1 lst, blkA bt 214 [.map (some rm)]]) (H := [_, _]) hS
      exact QN.ret1 rfl rfl ⟨_, rfl, _, ⟨S6, S5, s2, _, rfl, rfl⟩, hS.perm (.swap ..)⟩
    · obtain ⟨⟨a, x⟩, hax, rfl⟩ := List.mem_map.1 hp
      obtain ⟨ha, hx⟩ := hps _ hax
      rw [← k.l.ad] at ha
      dsimp only at ha hx hS ⊢
      obtain ⟨d0, hd0, rfl⟩ := List.mem_map.1 ha
      rw [← hM1] at hx
      obtain ⟨d1, hd1, rfl⟩ := List.mem_map.1 hx
      refine go ?_
      refine RL.entryMap hS rfl rfl (zS ..) rfl ?_
      dsimp only
      have hN : blkA d0.a 178 (nC d0.u d0.p d0.rl.v d0.rr.v d0.sz) ∈ Z := (by rw [hZ]; simp [(mem_ndL hd0).1] : d0.A ∈ Z)
      have hN' := hNt
      obtain ⟨j, p0, sd, fa, fb, hAt, hp0, hra, hrb⟩ := hat d0 hd0
      have hlv : ∀ o : Option Nat, (∀ b, o = some b → b ∈ q.ad) → ∀ m', JS m0 (ofps [seqA S s q]) X (mitA rm it ptrE (twE ps) c' (some (some d0.a, pA d1.a)) :: Z) m' → MapIn m' rm ptrE (twE ps) ∧ Lives LvP o (twE ps) m' := fun o ho m' hj => by
        obtain ⟨H, hT, hA⟩ := hj
        refine ⟨(hT.mem (hA.mem (zS ..)) : MIt ..).map, fun w hs => ⟨fun b hb => ?_, fun y hy b hb => ?_⟩⟩
        · obtain ⟨t, cs, h1⟩ := hlive b (ho b hb)
          exact LvP.blk (hT.mem (hA.mem (zO _ h1))) w hs b rfl
        · obtain ⟨z, hz, rfl⟩ := List.mem_map.1 hy
          obtain ⟨t, cs, h1⟩ := hlive _ (hps z hz).1
          cases hb
          exact LvP.blk (hT.mem (hA.mem (zO _ h1))) w hs _ rfl
      refine goS ?_
      refine WP.drawJ (mitA rm it ptrE (twE ps) c' (some (some d0.a, pA d1.a)) :: Z) hS (AllIn.appL (_ :: Z) (R M2)) (by kernel_rfl) ?_
      refine goS ?_
      obtain ⟨o, ho⟩ := twE_get ps (p0.map q.a)
      refine RH.lookupL (v := ptrE o) (k := p0.map q.a) (ok := false) T_ok PanicOk.calm nodeK rfl (by kernel_rfl) rfl rfl rfl rfl rfl rfl (by rw [hp0]; rfl) (hlv _ ?_) ?_ rfl ?_
      · intro b hb
        rcases at_par hAt with h | ⟨t, ht, h⟩
        · rw [h] at hb; cases hb
        · rw [h] at hb; cases hb; exact had t ht
      · exact ho
      refine goS ?_
      have hcall : ∀ (r : Rw) (f : Fo), r.xs = f.roots.map q.a → r.A ∈ Z → (∀ t ∈ f.flat, t ∈ q.F.flat) → f.flat.length ≤ q.F.flat.length →
          DoS Tryz.prog 139 [r.v, pA bt] (mitA rm it ptrE (twE ps) c' (some (some d0.a, pA d1.a)) :: Z) (fun v H => (∃ A n c, v = .slice A n c) ∧ H = mitA rm it ptrE (twE ps) c' (some (some d0.a, pA d1.a)) :: Z) := fun r f e1 e2 e3 e4 =>
        twins_s _ (mitA rm it ptrE (twE ps) c' (some (some d0.a, pA d1.a))) bt rm ps r (by rw [e1, List.length_map]; have h1 := roots_len f; have h2 := k.few; rw [k.ok.flen] at e4; omega) (zS ..) (fun m M h => MIt.map h) (zO _ hNt) (zO _ e2)
          (fun x hx => by
            rw [e1] at hx
            obtain ⟨t, ht, rfl⟩ := List.mem_map.1 hx
            obtain ⟨ty, cs, h1⟩ := hlive _ (had t (e3 t (Fo.roots_sub f t ht)))
            exact ⟨ty, cs, zO _ h1⟩)
          (fun y hy => by
            obtain ⟨ty, cs, h1⟩ := hlive _ (hps y hy).1
            exact ⟨ty, cs, zO _ h1⟩)
      have hmem := Fo.At.mem hAt
      have hlen := at_len hAt
      refine RH.callS (fi := []) (ca := [pA bt]) hS (hcall d0.rl fa hra (by rw [hZ]; simp [(mem_ndL hd0).2.1]) hmem.2.1 hlen.1) rfl (by kernel_rfl) rfl rfl rfl rfl rfl (sels_front (_ :: Z) (R M2)) ?_
      clear hS
      rintro _ m _ ⟨⟨A1, n1, k1, rfl⟩, rfl⟩ hS
      refine ⟨AllIn.appL (_ :: Z) (R M2), _, rfl, ?_⟩
      refine goS ?_
      refine RH.callS (fi := []) (ca := [pA bt]) hS (hcall d0.rr fb hrb (by rw [hZ]; simp [(mem_ndL hd0).2.2]) hmem.2.2 hlen.2) rfl (by kernel_rfl) rfl rfl rfl rfl rfl (sels_front (_ :: Z) (R M2)) ?_
      clear hS
      rintro _ m _ ⟨⟨A2, n2, k2, rfl⟩, rfl⟩ hS
      refine ⟨AllIn.appL (_ :: Z) (R M2), _, rfl, ?_⟩
      refine goS ?_
      obtain ⟨j1, hj1, e1⟩ := List.getElem_of_mem hd1
      have hg1 : M2[j1]? = some d1 := by rw [List.getElem?_eq_getElem hj1, e1]
      have hRep : ∀ (M3 : List Nf) (d d' : Nf), M3[j1]? = some d → Rep d.A d'.A (mitA rm it ptrE (twE ps) c' (some (some d0.a, pA d1.a)) :: Z ++ R M3) (mitA rm it ptrE (twE ps) c' (some (some d0.a, pA d1.a)) :: Z ++ R (M3.set j1 d')) := fun M3 d d' h => by
        rw [hR]
        exact rep_pre (.tail (.tail (.tail (rep_nf h)))) (_ :: Z)
      refine RH.one rfl (by kernel_rfl) rfl ?_
      refine RL.storeM (i := 6) (tb := 178) (cs := nC d1.u d1.p d1.l d1.r d1.sz) T_ok hS rfl rfl rfl rfl rfl rfl (hRep M2 d1 { d1 with p := o } hg1) rfl ?_
      clear hS
      intro m hS
      refine RL.N1 (RH.contM hS (AllIn.appL (_ :: Z) _) ?_)
      refine goS ?_
      have hg2 : (M2.set j1 { d1 with p := o })[j1]? = some { d1 with p := o } := by simp [hj1]
      refine RH.one rfl (by kernel_rfl) rfl ?_
      refine RL.storeM (i := 7) (tb := 178) (cs := nC d1.u o d1.l d1.r d1.sz) T_ok hS rfl rfl rfl rfl rfl rfl (hRep _ { d1 with p := o } { d1 with p := o, l := .slice A1 n1 k1 } hg2) rfl ?_
      clear hS
      intro m hS
      refine RL.N1 (RH.contM hS (AllIn.appL (_ :: Z) _) ?_)
      refine goS ?_
      have hg3 : ((M2.set j1 { d1 with p := o }).set j1 { d1 with p := o, l := .slice A1 n1 k1 })[j1]? = some { d1 with p := o, l := .slice A1 n1 k1 } := by simp [hj1]
      refine RH.one rfl (by kernel_rfl) rfl ?_
      refine RL.storeM (i := 8) (tb := 178) (cs := nC d1.u o (.slice A1 n1 k1) d1.r d1.sz) T_ok hS rfl rfl rfl rfl rfl rfl (hRep _ { d1 with p := o, l := .slice A1 n1 k1 } { d1 with p := o, l := .slice A1 n1 k1, r := .slice A2 n2 k2 } hg3) rfl ?_
      clear hS
      intro m hS
      refine RL.N1 (RH.contM hS (AllIn.appL (_ :: Z) _) ?_)
      refine goS ?_
      refine QN.round (c', some (some d0.a, pA d1.a), ((M2.set j1 { d1 with p := o }).set j1 { d1 with p := o, l := .slice A1 n1 k1 }).set j1 { d1 with p := o, l := .slice A1 n1 k1, r := .slice A2 n2 k2 }) (Sub.C1 rfl (Sub.C1 rfl (Sub.C1 rfl (Sub.C1 rfl (Sub.C1 rfl Sub.nil))))) ⟨?_, ?_, hS⟩ hc'
      · rw [← hM1]
        simp only [List.map_set, List.set_set]
        rw [← e1]; exact List.set_getElem_self_map (fun d : Nf => d.a) hj1
      · rw [← hM2]
        simp only [List.map_set, List.set_set]
        rw [← e1]; exact List.set_getElem_self_map (fun d : Nf => d.u) hj1
  · have hd : decide ((M.length : Int) < (ord.xs.length : Int)) = true := decide_eq_true (by omega)
    rw [hd]
    obtain ⟨g, c', hv', _, _, _⟩ := hS.ownAt (show ownA ord.S 176 1 ord.v ord.xs.length (ord.xs.map pA) ∈ _ from by simp [hZ, Rw.A]) (by omega)
    have hsl := Rw.sl hS (r := ord) (by simp [hZ])
    rw [hv] at hv' hsl
    cases hv'
    have hlq : M.length < q.F.flat.length := by rw [k.ok.flen]; omega
    obtain ⟨i, hi'⟩ : ∃ i, q.F.flat[M.length]? = some i := ⟨_, List.getElem?_eq_getElem hlq⟩
    have hx : (ord.xs.map pA)[M.length * 1]? = some (pA (q.a i)) := by rw [Nat.mul_one, k.o, List.map_map, List.getElem?_map, hi']; rfl
    obtain ⟨d, hd1, hd2, hd3, hd4⟩ := k.l.get ((k.ok.mem i).1 (List.mem_of_getElem? hi'))
    have hN3 : blkA (q.a i) 178 (nC (q.u i) d.p d.rl.v d.rr.v d.sz) ∈ Z := hd3 ▸ hd4 ▸ (by rw [hZ]; simp [(mem_ndL hd2).1] : d.A ∈ Z)
    refine go ?_
    refine RL.ldE T_ok hsl hx rfl rfl rfl rfl rfl rfl ?_
    have hN := List.mem_append_right (M.map Nf.A) hN3
    have hN' := List.mem_append_right (M.map Nf.A) hNt
    refine go ?_
    refine RH.one rfl (by kernel_rfl) rfl ?_
    refine RL.boxS hS rfl rfl rfl ?_; (try clear hS); intro x m hS; refine ⟨_, rfl, ?_⟩
    refine RL.N1 (RH.contM hS (AllIn.of_sub (fun a ha => zO _ ha)) ?_)
    refine go ?_
    have hl : Lives LvP (some (q.a i)) (twE ps) m := fun w hs => by
      refine ⟨LvP.blk (hS.mem (zO _ (zO _ (zO _ (zO _ (zO _ hN)))))) w hs, fun p hp' => ?_⟩
      obtain ⟨y, hy, rfl⟩ := List.mem_map.1 hp'
      obtain ⟨t, cs, h1⟩ := hlive _ (hps y hy).1
      exact LvP.blk (hS.mem (zO _ (zO _ (zO _ (zO _ (zO _ (List.mem_append_right (M.map Nf.A) h1))))))) w hs
    refine RL.mapUpdateL (k := some (q.a i)) (v := pA x) (es := twE ps) T_ok hS nodeK rfl rfl rfl rfl rfl rfl (by with_reducible repeat (first | exact zS .. | apply zO)) (by with_reducible repeat (first | exact Rep.head | apply Rep.tail)) hl rfl ?_
    clear hS hl
    intro m hS
    obtain ⟨ps', hps1, hps2⟩ := twE_set ps (q.a i) x
    rw [hps1] at hS
    refine go ?_
    refine RH.one rfl (by kernel_rfl) rfl ?_
    refine RL.mapUpdate (k := (q.u i).id) (v := pA x) (es := M.map fun d => (d.u.id, pA d.a)) T_ok hS idK rfl rfl rfl rfl rfl rfl (by with_reducible repeat (first | exact zS .. | apply zO)) (by with_reducible repeat (first | exact Rep.head | apply Rep.tail)) rfl ?_
    clear hS
    intro m hS
    refine RL.N1 (RF.last (by kernel_rfl) (QN.calm ?_))
    refine go ?_
    refine RL.append1M T_ok hS [.tmp 50] [pA x] rfl rfl rfl rfl rfl rfl rfl rfl rfl rfl (.tail (.tail (.tail (.tail .head)))) (by intro u hu; simp only [List.mem_singleton] at hu; subst hu; rfl) (by intro u hu; simp only [List.mem_singleton] at hu; subst hu; rfl) (Nat.le_trans (show M.length + 1 ≤ 1000001 by have := k.few; omega) (by decide)) (by show (M.length + 1) * 8 ≤ _; have := k.few; omega) ?_
    clear hS
    intro b v' m S' hS
    obtain ⟨Av, cv, rfl, _⟩ := Ev.Own.shape (show Ev.Own m S' 176 1 v' (M.length + 1) ((M.map fun d => pA d.a) ++ [pA x]) from hS.head)
    refine ⟨_, rfl, ?_⟩
    refine go ?_
    refine RL.storeM T_ok hS rfl rfl rfl rfl (by rfl) (by rfl) (by with_reducible repeat (first | exact Rep.head | apply Rep.tail)) (by rfl) ?_; (try clear hS); intro m hS
    refine go ?_
    have hul : q.units[M.length]? = some (q.u i) := by simp [Us.units, hi']
    have hu' : (M ++ [(⟨x, q.u i, none, .slice none 0 0, .slice none 0 0, d.sz⟩ : Nf)]).map (·.u) = q.units.take (M.length + 1) := by
      rw [List.map_append, hu, List.take_add_one, hul]; rfl
    have hnew : (q.u i).id ∉ (M.map fun d => (d.u.id, pA d.a)).map Prod.fst := by
      intro hh
      have e : (M.map fun d => (d.u.id, pA d.a)).map Prod.fst = (q.units.map (·.id)).take M.length := by rw [← List.map_take, ← hu]; simp
      rw [e] at hh
      have hnd := k.ok.ids_nodup
      have h2 : (q.units.map (·.id))[M.length]? = some (q.u i).id := by rw [List.getElem?_map, hul]; rfl
      obtain ⟨j, hj, hj2⟩ := List.getElem_of_mem hh
      simp only [List.length_take] at hj
      rw [List.getElem_take] at hj2
      have h3 := (List.getElem?_inj (i := j) (j := M.length) (by omega) hnd).1 (by rw [h2, ← hj2]; exact List.getElem?_eq_getElem _)
      omega
    rw [mset_new _ hnew] at hS
    refine QN.round (S', .slice Av (M.length + 1) cv, M ++ [⟨x, q.u i, none, .slice none 0 0, .slice none 0 0, d.sz⟩], ps') (Sub.C1 rfl (Sub.C1 rfl (Sub.C1 rfl (Sub.C1 rfl (Sub.C1 rfl (Sub.C1 ?_ Sub.nil)))))) ⟨by simp; omega, by rw [hu']; simp, fun p hp => ?_, ?_⟩ (by simp; omega)
    · show some (Value.int .i64 (IntKind.i64.wrap ((M.length : Int) + 1))) = some (.int .i64 (((M ++ [_]).length : Nat) : Int))
      rw [wrap_i64_in _ (by omega) (by have := k.few; omega)]; simp
    · rcases hps2 p hp with rfl | hp
      · exact ⟨by rw [← k.l.ad, ← hd3]; exact List.mem_map.2 ⟨d, hd2, rfl⟩, by simp⟩
      · exact ⟨(hps p hp).1, by rw [List.map_append]; exact List.mem_append_left _ (hps p hp).2⟩
    · refine hS.perm ?_
      simp only [cpH, List.map_append, List.length_append, List.map_cons, List.map_nil, List.length_cons, List.length_nil, List.append_assoc, zC, zN]
      exact ((List.perm_middle (l₁ := [_, _, _])).trans (.cons _ (List.perm_middle (l₁ := _ :: _ :: _ :: M.map Nf.A)))).symm
end Go.Proofs.YtgpgladbdoimdaaGreatDoor
end
section
namespace Go.Proofs.YtgpgladbdoimdaaGreatDoor
open Go.ChangeShapes Go.WideShapes Go.ChangeAt Go.RowKit Go.Ev Go.Ids Go.SeqP
set_option maxRecDepth 20000
set_option maxHeartbeats 1000000
theorem may_s (S : List Nat) (s : Nat) (q : Sq) (x : Un) : DoS Tryz.prog 227 [pA s, uV x] [seqA S s q] (fun v H => v = .bool (q.may x) ∧ ∃ S', H = [seqA S' s q]) := by
  intro m0 X hS
  refine FnE.enter ⟨_, Tryz.func227, by kernel_rfl, by kernel_rfl⟩ Tryz.func227 rfl rfl ?_
  refine go ?_
  refine RL.boxS hS rfl rfl rfl ?_; (try clear hS); intro b1 m hS; refine ⟨_, rfl, ?_⟩
  refine go ?_
  refine RL.boxS hS rfl rfl rfl ?_; (try clear hS); intro b2 m hS; refine ⟨_, rfl, ?_⟩
  have hT := hS
  clear hS
  refine go ?_
  refine WP.drawL [blkA b2 101 (uC x), blkA b1 105 [pA s]] hT (by repeat (first | exact AllIn.nil | refine AllIn.cons (by repeat (first | with_reducible exact zS .. | exact zS .. | with_reducible apply zO)) ?_)) rfl (by kernel_rfl) ?_
  have hS := hT
  clear hT
  refine go ?_
  cases hA : x.id.right with
  | false =>
    have hp := rightI_p x.id
    rw [hA] at hp
    refine RH.callU (fi := []) (ca := []) hS hp rfl (by kernel_rfl) rfl rfl rfl rfl rfl (by repeat (first | with_reducible exact Sels.nil | apply Sels.ro (by with_reducible repeat (first | exact zS .. | apply zO)) (by rfl) | apply Sels.own (by with_reducible repeat (first | exact Sel.head | apply Sel.tail)))) (by repeat (first | exact AllIn.nil | refine AllIn.cons (by repeat (first | with_reducible exact zS .. | exact zS .. | with_reducible apply zO)) ?_)) rfl (fun m hS => ?_)
    refine go ?_
    exact QN.ret1 rfl rfl ⟨_, rfl, _, ⟨by simp [Us.may, hA], S, rfl⟩, hS.tail.tail⟩
  | true =>
    have hp := rightI_p x.id
    rw [hA] at hp
    refine RH.callU (fi := []) (ca := []) hS hp rfl (by kernel_rfl) rfl rfl rfl rfl rfl (by repeat (first | with_reducible exact Sels.nil | apply Sels.ro (by with_reducible repeat (first | exact zS .. | apply zO)) (by rfl) | apply Sels.own (by with_reducible repeat (first | exact Sel.head | apply Sel.tail)))) (by repeat (first | exact AllIn.nil | refine AllIn.cons (by repeat (first | with_reducible exact zS .. | exact zS .. | with_reducible apply zO)) ?_)) rfl (fun m hS => ?_)
    refine go ?_
    obtain ⟨ra, rt, fr, at_, ord, ro, N, k, hU⟩ := seq_open (hS.perm (List.perm_append_comm (l₁ := [_, _]) (l₂ := [_])))
    refine RH.loadSegM T_ok PanicOk.calm 10 rfl (by kernel_rfl) rfl rfl rfl (by with_reducible repeat (first | exact zS .. | apply zO)) rfl rfl rfl ?_
    refine RH.one rfl (by kernel_rfl) rfl ?_
    refine RL.loadM T_ok hU rfl rfl rfl (by with_reducible repeat (first | exact zS .. | apply zO)) rfl rfl ?_
    refine RL.N1 (RH.contM hS (by repeat (first | exact AllIn.nil | refine AllIn.cons (by repeat (first | with_reducible exact zS .. | exact zS .. | with_reducible apply zO)) ?_)) ?_)
    refine go ?_
    have hg := k.get x.id
    cases hi : q.idx x.id with
    | some i =>
      rw [hi] at hg
      refine RH.one rfl (by kernel_rfl) rfl ?_
      refine RL.lookup T_ok hU idK rfl rfl rfl rfl rfl rfl (by with_reducible repeat (first | exact zS .. | apply zO)) hg rfl ?_
      refine RL.N1 (RH.contM hS (by repeat (first | exact AllIn.nil | refine AllIn.cons (by repeat (first | with_reducible exact zS .. | exact zS .. | with_reducible apply zO)) ?_)) ?_)
      refine go ?_
      exact QN.ret1 rfl rfl ⟨_, rfl, _, ⟨by simp [Us.may, hi], S, rfl⟩, hS.tail.tail⟩
    | none =>
      rw [hi] at hg
      refine RH.one rfl (by kernel_rfl) rfl ?_
      refine RL.lookup T_ok hU idK rfl rfl rfl rfl rfl rfl (by with_reducible repeat (first | exact zS .. | apply zO)) hg rfl ?_
      refine RL.N1 (RH.contM hS (by repeat (first | exact AllIn.nil | refine AllIn.cons (by repeat (first | with_reducible exact zS .. | exact zS .. | with_reducible apply zO)) ?_)) ?_)
      refine go ?_
      clear hU hg
      refine RH.callS (fi := []) (ca := [pA b1]) hS (may1_s S s b1 q x.l) rfl (by kernel_rfl) rfl rfl rfl rfl rfl (by repeat (first | with_reducible exact Sels.nil | apply Sels.ro (by with_reducible repeat (first | exact zS .. | apply zO)) (by rfl) | apply Sels.own (by with_reducible repeat (first | exact Sel.head | apply Sel.tail)))) ?_
      clear hS
      rintro _ m _ ⟨rfl, S1, rfl⟩ hS
      simp only [zC, zN] at hS
      refine ⟨by simp only [zC, zN]; exact (by repeat (first | exact AllIn.nil | refine AllIn.cons (by repeat (first | with_reducible exact zS .. | exact zS .. | with_reducible apply zO)) ?_)), _, rfl, ?_⟩
      cases hC : q.there x.l with
      | false =>
        refine go ?_
        exact QN.ret1 rfl rfl ⟨_, rfl, _, ⟨by simp [Us.may, hC], S1, rfl⟩, (hS.perm (.swap ..)).drop (H := [_])⟩
      | true =>
        refine go ?_
        refine RH.callS (fi := []) (ca := [pA b1]) hS (may1_s S1 s b1 q x.r) rfl (by kernel_rfl) rfl rfl rfl rfl rfl (by repeat (first | with_reducible exact Sels.nil | apply Sels.ro (by with_reducible repeat (first | exact zS .. | apply zO)) (by rfl) | apply Sels.own (by with_reducible repeat (first | exact Sel.head | apply Sel.tail)))) ?_
        clear hS
        rintro _ m _ ⟨rfl, S2, rfl⟩ hS
        simp only [zC, zN] at hS
        refine ⟨by simp only [zC, zN]; exact (by repeat (first | exact AllIn.nil | refine AllIn.cons (by repeat (first | with_reducible exact zS .. | exact zS .. | with_reducible apply zO)) ?_)), _, rfl, ?_⟩
        cases hD : q.there x.r with
        | false =>
          refine go ?_
          exact QN.ret1 rfl rfl ⟨_, rfl, _, ⟨by simp [Us.may, hD], S2, rfl⟩, (hS.perm (.swap ..)).drop (H := [_])⟩
        | true =>
          have hT := hS
          clear hS
          refine go ?_
          refine WP.drawL [blkA b2 101 (uC x), blkA b1 105 [pA s]] hT (by repeat (first | exact AllIn.nil | refine AllIn.cons (by repeat (first | with_reducible exact zS .. | exact zS .. | with_reducible apply zO)) ?_)) rfl (by kernel_rfl) ?_
          have hS := hT
          clear hT
          refine go ?_
          have hp1 := none_s x.l
          have hp2 := none_s x.r
          by_cases h1 : x.l = ⟨0, 0⟩
          · rw [decide_eq_true h1] at hp1
            refine RH.callU (fi := []) (ca := []) hS hp1 rfl (by kernel_rfl) rfl rfl rfl rfl rfl (by repeat (first | with_reducible exact Sels.nil | apply Sels.ro (by with_reducible repeat (first | exact zS .. | apply zO)) (by rfl) | apply Sels.own (by with_reducible repeat (first | exact Sel.head | apply Sel.tail)))) (by repeat (first | exact AllIn.nil | refine AllIn.cons (by repeat (first | with_reducible exact zS .. | exact zS .. | with_reducible apply zO)) ?_)) rfl (fun m hS => ?_)
            refine go ?_
            exact QN.ret1 rfl rfl ⟨_, rfl, _, ⟨by rw [Us.may, hA, hi, hC, hD]; simp [h1], S2, rfl⟩, (hS.perm (.swap ..)).drop (H := [_])⟩
          · rw [decide_eq_false h1] at hp1
            refine RH.callU (fi := []) (ca := []) hS hp1 rfl (by kernel_rfl) rfl rfl rfl rfl rfl (by repeat (first | with_reducible exact Sels.nil | apply Sels.ro (by with_reducible repeat (first | exact zS .. | apply zO)) (by rfl) | apply Sels.own (by with_reducible repeat (first | exact Sel.head | apply Sel.tail)))) (by repeat (first | exact AllIn.nil | refine AllIn.cons (by repeat (first | with_reducible exact zS .. | exact zS .. | with_reducible apply zO)) ?_)) rfl (fun m hS => ?_)
            refine go ?_
            by_cases h2 : x.r = ⟨0, 0⟩
            · rw [decide_eq_true h2] at hp2
              refine RH.callU (fi := []) (ca := []) hS hp2 rfl (by kernel_rfl) rfl rfl rfl rfl rfl (by repeat (first | with_reducible exact Sels.nil | apply Sels.ro (by with_reducible repeat (first | exact zS .. | apply zO)) (by rfl) | apply Sels.own (by with_reducible repeat (first | exact Sel.head | apply Sel.tail)))) (by repeat (first | exact AllIn.nil | refine AllIn.cons (by repeat (first | with_reducible exact zS .. | exact zS .. | with_reducible apply zO)) ?_)) rfl (fun m hS => ?_)
              refine go ?_
              exact QN.ret1 rfl rfl ⟨_, rfl, _, ⟨by rw [Us.may, hA, hi, hC, hD]; simp [h2], S2, rfl⟩, (hS.perm (.swap ..)).drop (H := [_])⟩
            · rw [decide_eq_false h2] at hp2
              refine RH.callU (fi := []) (ca := []) hS hp2 rfl (by kernel_rfl) rfl rfl rfl rfl rfl (by repeat (first | with_reducible exact Sels.nil | apply Sels.ro (by with_reducible repeat (first | exact zS .. | apply zO)) (by rfl) | apply Sels.own (by with_reducible repeat (first | exact Sel.head | apply Sel.tail)))) (by repeat (first | exact AllIn.nil | refine AllIn.cons (by repeat (first | with_reducible exact zS .. | exact zS .. | with_reducible apply zO)) ?_)) rfl (fun m hS => ?_)
              refine go ?_
              refine RH.callS (fi := []) (ca := []) hS (find_s S2 s q x.l) rfl (by kernel_rfl) rfl rfl rfl rfl rfl (by repeat (first | with_reducible exact Sels.nil | apply Sels.ro (by with_reducible repeat (first | exact zS .. | apply zO)) (by rfl) | apply Sels.own (by with_reducible repeat (first | exact Sel.head | apply Sel.tail)))) ?_
              clear hS
              rintro _ m _ ⟨rfl, S3, rfl⟩ hS
              simp only [zC, zN] at hS
              refine ⟨by simp only [zC, zN]; exact (by repeat (first | exact AllIn.nil | refine AllIn.cons (by repeat (first | with_reducible exact zS .. | exact zS .. | with_reducible apply zO)) ?_)), _, rfl, ?_⟩
              refine go ?_
              refine RH.callS (fi := []) (ca := []) hS (find_s S3 s q x.r) rfl (by kernel_rfl) rfl rfl rfl rfl rfl (by repeat (first | with_reducible exact Sels.nil | apply Sels.ro (by with_reducible repeat (first | exact zS .. | apply zO)) (by rfl) | apply Sels.own (by with_reducible repeat (first | exact Sel.head | apply Sel.tail)))) ?_
              clear hS
              rintro _ m _ ⟨rfl, S4, rfl⟩ hS
              simp only [zC, zN] at hS
              refine ⟨by simp only [zC, zN]; exact (by repeat (first | exact AllIn.nil | refine AllIn.cons (by repeat (first | with_reducible exact zS .. | exact zS .. | with_reducible apply zO)) ?_)), _, rfl, ?_⟩
              refine go ?_
              exact QN.ret1 rfl rfl ⟨_, rfl, _, ⟨by rw [Us.may, hA, hi, hC, hD]; simp [h1, h2], S4, rfl⟩, hS.drop (H := [_])⟩
end Go.Proofs.YtgpgladbdoimdaaGreatDoor
end
section
namespace Go.Proofs.YtgpgladbdoimdaaGreatDoor
open Go.ChangeShapes Go.WideShapes Go.ChangeAt Go.RowKit Go.Ev Go.Ids Go.SeqP
set_option maxRecDepth 20000
set_option maxHeartbeats 1000000
theorem SOk.node {q : Sq} {fr : Bool} {at_ : List (Idn × Value)} {ord ro : Rw} {N : List Nd} (k : SOk q fr at_ ord ro N) (ht : q.tr = true) {i : Nat} (hi : i < q.us.length) {p : Option Nat} {s : Bool} {a b : Fo} (hA : Fo.At q.F none false i p s a b) :
    ∃ d, N[i]? = some d ∧ d ∈ N ∧ d.a = q.a i ∧ d.u = q.u i ∧ d.p = p.map q.a ∧ d.sz = a.sz + b.sz + 1 ∧ d.rl.xs = a.roots.map q.a ∧ d.rr.xs = b.roots.map q.a := by
  obtain ⟨d, h1, h2, h3, h4⟩ := k.l.get hi
  obtain ⟨d', h5, h6⟩ := k.l.at_ ht _ _ _ _ _ hA
  rw [h1] at h5
  cases h5
  exact ⟨d, h1, h2, h3, h4, h6⟩
section
variable {q : Sq} {s ra rt : Nat} {fr : Bool} {at_ : List (Idn × Value)} {ord ro : Rw} {N : List Nd} {F : List Asn}
theorem sqH_focus {i : Nat} {d : Nd} (h : N[i]? = some d) : (sqH q s ra rt fr at_ ord ro N F).Perm (d.A :: d.rl.A :: d.rr.A :: sqH q s ra rt fr at_ ord ro (N.eraseIdx i) F) :=
  (((ndL_focus h).append_right F).append_left [_, _, _, _, _]).trans (List.perm_append_comm_assoc [_, _, _, _, _] [d.A, d.rl.A, d.rr.A] _)
theorem sqH_set {i : Nat} {d : Nd} (d' : Nd) (h : N[i]? = some d) : (d'.A :: d'.rl.A :: d'.rr.A :: sqH q s ra rt fr at_ ord ro (N.eraseIdx i) F).Perm (sqH q s ra rt fr at_ ord ro (N.set i d') F) :=
  (List.perm_append_comm_assoc [d'.A, d'.rl.A, d'.rr.A] [_, _, _, _, _] _).trans (((ndL_set d' h).append_right F).append_left [_, _, _, _, _])
end
theorem kL_eq {q : Us} {id : Idn} : ∀ {l : List Nat} {j : Nat}, (l.map fun k => (q.u k).id).Pairwise (fun x y => x.lt y = true) → j ≤ l.length → (∀ n y, j ≤ n → l[n]? = some y → id.lt (q.u y).id = true) → (∀ y, 0 < j → l[j - 1]? = some y → (q.u y).id.lt id = true) → q.kL l id = j
  | [], j, _, hj, _, _ => by simp at hj; subst hj; rfl
  | a :: l, 0, hs, _, h1, _ => by
    have h2 := h1 0 a (Nat.le_refl _) rfl
    have h3 : (q.u a).id.lt id = false := by
      cases h : (q.u a).id.lt id
      · rfl
      · have := Idn.lt_trans h2 h; rw [Idn.lt_irrefl] at this; cases this
    simp [Us.kL, h3]
  | a :: l, j + 1, hs, hj, h1, h2 => by
    obtain ⟨s1, s2⟩ := List.pairwise_cons.1 hs
    have ih := kL_eq (q := q) (id := id) (l := l) (j := j) s2 (by simpa using hj) (fun n y hn hy => h1 (n + 1) y (by omega) (by simpa using hy)) (fun y hj hy => h2 y (by omega) (by
      obtain ⟨i, rfl⟩ : ∃ i, j = i + 1 := ⟨j - 1, by omega⟩
      simpa using hy))
    have h3 : (q.u a).id.lt id = true := by
      rcases Nat.eq_zero_or_pos j with rfl | hp
      · exact h2 a (by omega) rfl
      · have hlt : j - 1 < l.length := by simp at hj; omega
        have h4 := h2 l[j - 1] (by omega) (by
          obtain ⟨i, rfl⟩ : ∃ i, j = i + 1 := ⟨j - 1, by omega⟩
          simp)
        exact Idn.lt_trans (s1 _ (List.mem_map.2 ⟨_, List.getElem_mem hlt, rfl⟩)) h4
    unfold Us.kL at ih ⊢
    simp only [List.takeWhile_cons, h3, if_true, List.length_cons, ih]
theorem leftOf_s (S : List Nat) (s b : Nat) (q : Sq) (x : Un) (r : Nat) (hr : r < q.us.length) (ht : q.tr = true) (hx : q.idx x.id = none) {p : Option Nat} {sd : Bool} {fa fb : Fo} (hA : Fo.At q.F none false r p sd fa fb) : DoS Tryz.prog 261 [pA s, pA b, pA (q.a r)] [seqA S s q, blkA b 178 (nC x none (.slice none 0 0) (.slice none 0 0) 1)]
    (fun v H => v = .int .i64 (q.place r - (fa.sz - Fo.pre (q.kL fa.roots x.id) fa) : Nat) ∧ ∃ ra rt fr at_ ord ro N d R, SOk q fr at_ ord ro N ∧ N[r]? = some d ∧ R.xs = insAt (q.kL fa.roots x.id) b d.rl.xs ∧ H = sqH q s ra rt fr at_ ord ro (N.set r { d with rl := R }) [blkA b 178 (nC x (some (q.a r)) (.slice none 0 0) (.slice none 0 0) 1)]) := by
  intro m0 X hS
  refine FnE.enter ⟨_, Tryz.func261, by kernel_rfl, by kernel_rfl⟩ Tryz.func261 rfl rfl ?_
  refine go ?_
  refine RL.storeM T_ok hS rfl rfl rfl rfl (by rfl) (by rfl) (by with_reducible repeat (first | exact Rep.head | apply Rep.tail)) (by rfl) ?_; (try clear hS); intro m hS
  have hS : Tr m0 _ X m [seqA S s q, blkA b 178 (nC x (some (q.a r)) (.slice none 0 0) (.slice none 0 0) 1)] := hS
  obtain ⟨ra, rt, fr, at_, ord, ro, N, k, hS⟩ := seq_open hS
  obtain ⟨d, d1, d2, d3, d4, d5, d6, d7, d8⟩ := k.node ht hr hA
  have hN : blkA (q.a r) 178 (nC (q.u r) d.p d.rl.v d.rr.v d.sz) ∈ ndL N ++ [blkA b 178 (nC x (some (q.a r)) (.slice none 0 0) (.slice none 0 0) 1)] := by rw [← d3, ← d4]; exact List.mem_append_left _ (mem_ndL d2).1
  refine go ?_
  obtain ⟨S1, hS⟩ := seq_close k hS
  refine RL.callM (fi := []) (ca := []) hS (find_s S1 s q (q.u r).id) rfl rfl rfl rfl (by repeat (first | with_reducible exact Sels.nil | apply Sels.ro (by with_reducible repeat (first | exact zS .. | apply zO)) (by rfl) | apply Sels.own (by with_reducible repeat (first | exact Sel.head | apply Sel.tail)))) ?_
  clear hS hN
  rintro _ m _ ⟨rfl, S2, rfl⟩ hS
  simp only [zC, zN] at hS
  refine ⟨_, rfl, ?_⟩
  have hf : q.find (q.u r).id = q.place r := by simp [Us.find, k.ok.idx_of hr]
  rw [hf]
  obtain ⟨ra, rt, fr, at_, ord, ro, N, k, hS⟩ := seq_open hS
  obtain ⟨d, d1, d2, d3, d4, d5, d6, d7, d8⟩ := k.node ht hr hA
  have hN : blkA (q.a r) 178 (nC (q.u r) d.p d.rl.v d.rr.v d.sz) ∈ ndL N ++ [blkA b 178 (nC x (some (q.a r)) (.slice none 0 0) (.slice none 0 0) 1)] := by rw [← d3, ← d4]; exact List.mem_append_left _ (mem_ndL d2).1
  have hN' : blkA b 178 (nC x (some (q.a r)) (.slice none 0 0) (.slice none 0 0) 1) ∈ ndL N ++ [blkA b 178 (nC x (some (q.a r)) (.slice none 0 0) (.slice none 0 0) 1)] := by simp
  obtain ⟨A, c, hv, hc⟩ := Rw.shape hS (r := d.rl) (by simp [(mem_ndL d2).2.1])
  refine go ?_
  rw [hv]
  refine go ?_
  have hl : d.rl.xs.length = fa.roots.length := by rw [d7, List.length_map]
  obtain ⟨pl1, pl2⟩ := k.ok.place_at hA
  have few := k.few
  refine (WP.loopX (X := Nat) (fun j => [(0, pA s), (1, pA b), (2, pA (q.a r)), (7, .int .i64 (q.place r - (fa.sz - Fo.pre j fa) : Nat)), (8, .int .i64 j)])
    (fun j m' => j ≤ fa.roots.length ∧ (∀ n y, j ≤ n → fa.roots[n]? = some y → x.id.lt (q.u y).id = true) ∧ Tr m0 (ofps [seqA S s q, blkA b 178 (nC x none (.slice none 0 0) (.slice none 0 0) 1)]) X m' (sqH q s ra rt fr at_ ord ro N [blkA b 178 (nC x (some (q.a r)) (.slice none 0 0) (.slice none 0 0) 1)]))
    (fun j m' => j = q.kL fa.roots x.id ∧ Tr m0 (ofps [seqA S s q, blkA b 178 (nC x none (.slice none 0 0) (.slice none 0 0) 1)]) X m' (sqH q s ra rt fr at_ ord ro N [blkA b 178 (nC x (some (q.a r)) (.slice none 0 0) (.slice none 0 0) 1)])) (fun j => j) fa.roots.length 0
    (Sub.C1 rfl (Sub.C1 rfl (Sub.C1 rfl (Sub.C1 ?_ (Sub.C1 ?_ Sub.nil))))) ⟨Nat.le_refl _, fun n y hn hy => ?_, hS⟩ ?_ ?_)
  · rw [Fo.pre_full, Nat.sub_self, Nat.sub_zero]; rfl
  · rw [← hl]; rfl
  · have := (List.getElem?_eq_some_iff.1 hy).1; omega
  · clear hS
    rintro j m ⟨hj, hgt, hS⟩
    dsimp only at hj hgt hS ⊢
    refine go ?_
    rcases Nat.eq_zero_or_pos j with rfl | hpos
    · refine go ?_
      refine WP.exit (QN.tx (QN.tx (QN.exitJ 0 (Sub.C1 rfl (Sub.C1 rfl (Sub.C1 rfl (Sub.C1 rfl (Sub.C1 rfl Sub.nil))))) ⟨?_, hS⟩)))
      exact (kL_eq (k.ok.lef _ _ _ _ _ hA) (Nat.zero_le _) (fun n y _ hy => hgt n y (Nat.zero_le _) hy) (fun y h => absurd h (by omega))).symm
    · obtain ⟨y, hy⟩ : ∃ y, fa.roots[j - 1]? = some y := ⟨_, List.getElem?_eq_getElem (by omega)⟩
      obtain ⟨fl, fr', hn⟩ := Fo.nth_root _ _ _ hy
      have hAy := At.below hA (.inl (At.ofNth (some r) true hn))
      have hyl := (k.ok.mem y).1 hAy.mem.1
      obtain ⟨dy, y1, y2, y3, y4, y5, y6, y7, y8⟩ := k.node ht hyl hAy
      have hN2 : blkA (q.a y) 178 (nC (q.u y) dy.p dy.rl.v dy.rr.v dy.sz) ∈ ndL N ++ [blkA b 178 (nC x (some (q.a r)) (.slice none 0 0) (.slice none 0 0) 1)] := by rw [← y3, ← y4]; exact List.mem_append_left _ (mem_ndL y2).1
      have hps := Fo.pre_succ _ _ _ _ _ hn
      rw [Nat.sub_add_cancel hpos] at hps
      have hpl := Fo.pre_le j fa
      have hrl := roots_le fa
      have hw : IntKind.i64.wrap ((j : Int) - 1) = ((j - 1 : Nat) : Int) := by rw [wrap_i64_in _ (by omega) (by omega)]; omega
      have hd0 : decide ((j : Int) > 0) = true := decide_eq_true (by omega)
      obtain ⟨g, c', hv', _, _, _⟩ := hS.ownAt (show ownA d.rl.S 176 1 d.rl.v d.rl.xs.length (d.rl.xs.map pA) ∈ _ from by simp only [List.mem_cons, List.mem_append]; exact .inr (.inr (.inr (.inr (.inr (.inl (mem_ndL d2).2.1)))))) (by omega)
      have hsl := JS.ownSl (m0 := m0) (M0 := ofps [seqA S s q, blkA b 178 (nC x none (.slice none 0 0) (.slice none 0 0) 1)]) (X := X) (L := sqH q s ra rt fr at_ ord ro N [blkA b 178 (nC x (some (q.a r)) (.slice none 0 0) (.slice none 0 0) 1)]) (show ownA d.rl.S 176 1 d.rl.v d.rl.xs.length (d.rl.xs.map pA) ∈ _ from by simp only [List.mem_cons, List.mem_append]; exact .inr (.inr (.inr (.inr (.inr (.inl (mem_ndL d2).2.1))))))
      rw [hv'] at hsl
      have hxe : (d.rl.xs.map pA)[(j - 1) * 1]? = some (pA (q.a y)) := by rw [Nat.mul_one, d7, List.map_map, List.getElem?_map, hy]; rfl
      refine go ?_
      rw [hd0]
      refine go ?_
      rw [hw]
      rw [hv']
      refine go ?_
      refine RH.ldE T_ok PanicOk.calm hsl hxe rfl rfl rfl (by kernel_rfl) rfl rfl rfl rfl rfl ?_
      refine go ?_
      cases hlt : x.id.lt (q.u y).id with
      | false =>
        have hp := less_p x.id (q.u y).id
        rw [hlt] at hp
        refine RH.callU (fi := []) (ca := []) hS hp rfl (by kernel_rfl) rfl rfl rfl rfl rfl (by repeat (first | with_reducible exact Sels.nil | apply Sels.ro (by with_reducible repeat (first | exact zS .. | apply zO)) (by rfl) | apply Sels.own (by with_reducible repeat (first | exact Sel.head | apply Sel.tail)))) (AllIn.self _) rfl (fun m hS => ?_)
        refine go ?_
        refine WP.exit (QN.tx (QN.tx (QN.exitJ j (Sub.C1 rfl (Sub.C1 rfl (Sub.C1 rfl (Sub.C1 rfl (Sub.C1 rfl Sub.nil))))) ⟨?_, hS⟩)))
        refine (kL_eq (k.ok.lef _ _ _ _ _ hA) hj hgt (fun y' _ hy' => ?_)).symm
        rw [hy] at hy'
        cases hy'
        refine (Idn.lt_tri (fun hh => ?_)).resolve_left (by rw [hlt]; simp)
        exact Us.idx_none.1 hx (List.mem_map.2 ⟨_, Us.u_mem hyl, hh.symm⟩)
      | true =>
        have hp := less_p x.id (q.u y).id
        rw [hlt] at hp
        refine RH.callU (fi := []) (ca := []) hS hp rfl (by kernel_rfl) rfl rfl rfl rfl rfl (by repeat (first | with_reducible exact Sels.nil | apply Sels.ro (by with_reducible repeat (first | exact zS .. | apply zO)) (by rfl) | apply Sels.own (by with_reducible repeat (first | exact Sel.head | apply Sel.tail)))) (AllIn.self _) rfl (fun m hS => ?_)
        refine go ?_
        rw [hw, hv']
        refine go ?_
        have hsm := Rw.sl hS (r := d.rl) (by simp only [List.mem_cons, List.mem_append]; exact .inr (.inr (.inr (.inr (.inr (.inl (mem_ndL d2).2.1))))))
        rw [hv'] at hsm
        refine RL.ldE T_ok hsm hxe rfl rfl rfl rfl rfl rfl ?_
        refine go ?_
        have hw2 : IntKind.i64.wrap (((q.place r - (fa.sz - Fo.pre j fa) : Nat) : Int) - (dy.sz : Int)) = ((q.place r - (fa.sz - Fo.pre (j - 1) fa) : Nat) : Int) := by
          rw [wrap_i64_in _ (by omega) (by omega)]; omega
        rw [hw, hw2]
        refine QN.round (j - 1) (Sub.C1 rfl (Sub.C1 rfl (Sub.C1 rfl (Sub.C1 rfl (Sub.C1 rfl Sub.nil))))) ⟨by omega, fun n y' hn' hy' => ?_, hS⟩ (by omega)
        rcases Nat.eq_or_lt_of_le hn' with rfl | hn'
        · rw [hy] at hy'
          cases hy'
          exact hlt
        · exact hgt n y' (by omega) hy'
  · clear hS hN hN' hv hc
    rintro _ m ⟨rfl, hS⟩
    refine QN.bx ?_
    have hS := hS.perm (sqH_focus d1)
    have eA : d.A = blkA (q.a r) 178 (nC (q.u r) d.p d.rl.v d.rr.v d.sz) := by rw [Nd.A, d3, d4]
    have hS : Tr m0 (ofps [seqA S s q, blkA b 178 (nC x none (.slice none 0 0) (.slice none 0 0) 1)]) X m (blkA (q.a r) 178 (nC (q.u r) d.p d.rl.v d.rr.v d.sz) :: ownA d.rl.S 176 1 d.rl.v d.rl.xs.length (d.rl.xs.map pA) :: d.rr.A :: sqH q s ra rt fr at_ ord ro (N.eraseIdx r) [blkA b 178 (nC x (some (q.a r)) (.slice none 0 0) (.slice none 0 0) 1)]) := by rw [← eA]; exact hS
    have hki : q.kL fa.roots x.id ≤ d.rl.xs.length := by rw [hl]; simpa [Us.kL] using Us.takeWhile_le _ fa.roots
    have hrl := roots_le fa
    refine go ?_
    refine RL.buildSliceM T_ok hS [.tmp 68] [pA b] rfl rfl rfl rfl rfl rfl (by intro u hu; simp only [List.mem_singleton] at hu; subst hu; rfl) rfl rfl rfl ?_
    clear hS
    intro b' m hS
    refine ⟨_, rfl, ?_⟩
    refine RL.callM (fi := []) (ca := []) hS (insN_s d.rl.v (.slice (some ⟨b', 0, none⟩) 1 1) d.rl.S [b'] d.rl.xs.length (q.kL fa.roots x.id) 1 (d.rl.xs.map pA) [pA b] hki (by omega) (by omega) (fun z hz => by obtain ⟨_, _, rfl⟩ := List.mem_map.1 hz; rfl) (fun z hz => by simp only [List.mem_singleton] at hz; subst hz; rfl)) rfl rfl rfl rfl (by repeat (first | with_reducible exact Sels.nil | apply Sels.ro (by with_reducible repeat (first | exact zS .. | apply zO)) (by rfl) | apply Sels.own (by with_reducible repeat (first | exact Sel.head | apply Sel.tail)))) ?_
    clear hS
    rintro v' m _ ⟨S', rfl⟩ hS
    simp only [zC, zN] at hS
    obtain ⟨A2, c2, rfl, _⟩ := hS.shape
    refine ⟨_, rfl, ?_⟩
    refine go ?_
    refine RL.storeM T_ok hS rfl rfl rfl rfl (by rfl) (by rfl) (by with_reducible repeat (first | exact Rep.head | apply Rep.tail)) (by rfl) ?_; (try clear hS); intro m hS
    refine go ?_
    have eR : (Rw.mk S' (.slice A2 (d.rl.xs.length + 1) c2) (insAt (q.kL fa.roots x.id) b d.rl.xs)).A = ownA S' 176 1 (.slice A2 (d.rl.xs.length + 1) c2) (d.rl.xs.length + 1) ((d.rl.xs.map pA).take (q.kL fa.roots x.id * 1) ++ [pA b] ++ (d.rl.xs.map pA).drop (q.kL fa.roots x.id * 1)) := by simp only [Rw.A, insAt_length, insAt_map]; simp [insAt]
    have eB : Nd.A { d with rl := (Rw.mk S' (.slice A2 (d.rl.xs.length + 1) c2) (insAt (q.kL fa.roots x.id) b d.rl.xs)) } = blkA (q.a r) 178 (nC (q.u r) d.p (.slice A2 (d.rl.xs.length + 1) c2) d.rr.v d.sz) := by simp only [Nd.A, d3, d4]
    have hS : Tr m0 (ofps [seqA S s q, blkA b 178 (nC x none (.slice none 0 0) (.slice none 0 0) 1)]) X m (blkA (q.a r) 178 (nC (q.u r) d.p (.slice A2 (d.rl.xs.length + 1) c2) d.rr.v d.sz) :: (Rw.mk S' (.slice A2 (d.rl.xs.length + 1) c2) (insAt (q.kL fa.roots x.id) b d.rl.xs)).A :: d.rr.A :: sqH q s ra rt fr at_ ord ro (N.eraseIdx r) [blkA b 178 (nC x (some (q.a r)) (.slice none 0 0) (.slice none 0 0) 1)]) := by rw [eR]; exact hS.perm (.swap ..)
    rw [← eB] at hS
    exact QN.ret1 rfl rfl ⟨_, rfl, _, ⟨rfl, ra, rt, fr, at_, ord, ro, N, d, (Rw.mk S' (.slice A2 (d.rl.xs.length + 1) c2) (insAt (q.kL fa.roots x.id) b d.rl.xs)), k, d1, rfl, rfl⟩, hS.perm (sqH_set _ d1)⟩
end Go.Proofs.YtgpgladbdoimdaaGreatDoor
end
section
namespace Go.Proofs.YtgpgladbdoimdaaGreatDoor
open Go.ChangeShapes Go.WideShapes Go.ChangeAt Go.RowKit Go.Ev Go.Ids Go.SeqP
set_option maxRecDepth 20000
set_option maxHeartbeats 2000000
theorem kR_eq {q : Us} {x : Un} : ∀ {l : List Nat} {j : Nat}, j ≤ l.length → (∀ n y, n < j → l[n]? = some y → q.ahead (q.u y) x = true) → (∀ y, l[j]? = some y → q.ahead (q.u y) x = false) → q.kR l x = j
  | [], j, hj, _, _ => by simp at hj; subst hj; rfl
  | a :: l, 0, _, _, h2 => by simp [Us.kR, h2 a rfl]
  | a :: l, j + 1, hj, h1, h2 => by
    have ih := kR_eq (q := q) (x := x) (l := l) (j := j) (by simpa using hj) (fun n y hn hy => h1 (n + 1) y (by omega) (by simpa using hy)) (fun y hy => h2 y (by simpa using hy))
    have h3 := h1 0 a (by omega) rfl
    unfold Us.kR at ih ⊢
    simp only [List.takeWhile_cons, h3, if_true, List.length_cons, ih]
theorem rightL_s (S : List Nat) (s b : Nat) (q : Sq) (x : Un) (l : Nat) (hl : l < q.us.length) (ht : q.tr = true) (hq : q.Ok) (few : q.us.length < 1000000) {p : Option Nat} {sd : Bool} {fa fb : Fo} (hA : Fo.At q.F none false l p sd fa fb) : DoS Tryz.prog 262 [pA s, pA b, pA (q.a l)] [seqA S s q, blkA b 178 (nC x none (.slice none 0 0) (.slice none 0 0) 1)]
    (fun v H => v = .int .i64 (q.place l + 1 + Fo.pre (q.kR fb.roots x) fb : Nat) ∧ ∃ ra rt fr at_ ord ro N d R, SOk q fr at_ ord ro N ∧ N[l]? = some d ∧ R.xs = insAt (q.kR fb.roots x) b d.rr.xs ∧ H = sqH q s ra rt fr at_ ord ro (N.set l { d with rr := R }) [blkA b 178 (nC x (some (q.a l)) (.slice none 0 0) (.slice none 0 0) 1)]) := by
  intro m0 X hS
  refine FnE.enter ⟨_, Tryz.func262, by kernel_rfl, by kernel_rfl⟩ Tryz.func262 rfl rfl ?_
  refine go ?_
  refine RL.storeM T_ok hS rfl rfl rfl rfl (by rfl) (by rfl) (by with_reducible repeat (first | exact Rep.head | apply Rep.tail)) (by rfl) ?_; (try clear hS); intro m hS
  have hT : Tr m0 (ofps [seqA S s q, blkA b 178 (nC x none (.slice none 0 0) (.slice none 0 0) 1)]) X m [seqA S s q, blkA b 178 (nC x (some (q.a l)) (.slice none 0 0) (.slice none 0 0) 1)] := hS
  clear hS
  refine go ?_
  refine WP.drawL [] hT .nil rfl (by kernel_rfl) ?_
  have hS := hT
  clear hT
  refine go ?_
  obtain ⟨ra, rt, fr, at_, ord, ro, N, k, hU⟩ := seq_open hS
  obtain ⟨d, d1, d2, d3, d4, d5, d6, d7, d8⟩ := k.node ht hl hA
  have hN : blkA (q.a l) 178 (nC (q.u l) d.p d.rl.v d.rr.v d.sz) ∈ sqH q s ra rt fr at_ ord ro N [blkA b 178 (nC x (some (q.a l)) (.slice none 0 0) (.slice none 0 0) 1)] := by rw [← d4, ← d3]; simp only [List.mem_cons, List.mem_append]; exact .inr (.inr (.inr (.inr (.inr (.inl (mem_ndL d2).1)))))
  refine RH.one rfl (by kernel_rfl) rfl ?_
  refine RL.lsM T_ok hU rfl rfl rfl hN rfl rfl rfl ?_
  refine RL.N1 (RH.contM hS .nil ?_)
  clear hU hN
  refine go ?_
  refine RH.callS (fi := []) (ca := []) hS (find_s S s q (q.u l).id) rfl (by kernel_rfl) rfl rfl rfl rfl rfl (by repeat (first | with_reducible exact Sels.nil | apply Sels.ro (by with_reducible repeat (first | exact zS .. | apply zO)) (by rfl) | apply Sels.own (by with_reducible repeat (first | exact Sel.head | apply Sel.tail)))) ?_
  clear hS
  rintro _ m _ ⟨rfl, S2, rfl⟩ hS
  simp only [zC, zN] at hS
  refine ⟨.nil, _, rfl, ?_⟩
  have hf : q.find (q.u l).id = q.place l := by simp [Us.find, hq.idx_of hl]
  have pl1 := (hq.place_at hA).2
  rw [hf]
  have hw0 : IntKind.i64.wrap ((q.place l : Int) + 1) = ((q.place l + 1 : Nat) : Int) := by rw [wrap_i64_in _ (by omega) (by omega)]; omega
  refine go ?_
  rw [hw0]
  have hrl := roots_le fb
  refine (WP.loopX (X := Nat) (fun j => [(0, pA s), (1, pA b), (2, pA (q.a l)), (7, .pointer (some (Addr.add ⟨q.a l, 0, none⟩ 8))), (8, .int .i64 (q.place l + 1 + Fo.pre j fb : Nat)), (9, .int .i64 j)])
    (fun j m' => j ≤ fb.roots.length ∧ (∀ n y, n < j → fb.roots[n]? = some y → q.ahead (q.u y) x = true) ∧ ∃ S', Tr m0 (ofps [seqA S s q, blkA b 178 (nC x none (.slice none 0 0) (.slice none 0 0) 1)]) X m' [seqA S' s q, blkA b 178 (nC x (some (q.a l)) (.slice none 0 0) (.slice none 0 0) 1)])
    (fun j m' => j = q.kR fb.roots x ∧ ∃ S', Tr m0 (ofps [seqA S s q, blkA b 178 (nC x none (.slice none 0 0) (.slice none 0 0) 1)]) X m' [seqA S' s q, blkA b 178 (nC x (some (q.a l)) (.slice none 0 0) (.slice none 0 0) 1)]) (fun j => fb.roots.length - j) 0 0
    (Sub.C1 rfl (Sub.C1 rfl (Sub.C1 rfl (Sub.C1 rfl (Sub.C1 rfl (Sub.C1 rfl Sub.nil)))))) ⟨Nat.zero_le _, fun n y hn => (by omega), _, hS⟩ ?_ ?_)
  · clear hS
    rintro j m ⟨hj, hal, S1, hS⟩
    dsimp only at hj hal hS ⊢
    obtain ⟨ra, rt, fr, at_, ord, ro, N, k, hS⟩ := seq_open hS
    obtain ⟨d, d1, d2, d3, d4, d5, d6, d7, d8⟩ := k.node ht hl hA
    have hN : blkA (q.a l) 178 (nC (q.u l) d.p d.rl.v d.rr.v d.sz) ∈ ndL N ++ [blkA b 178 (nC x (some (q.a l)) (.slice none 0 0) (.slice none 0 0) 1)] := by rw [← d4, ← d3]; exact List.mem_append_left _ (mem_ndL d2).1
    have hrow : ownA d.rr.S 176 1 d.rr.v d.rr.xs.length (d.rr.xs.map pA) ∈ sqH q s ra rt fr at_ ord ro N [blkA b 178 (nC x (some (q.a l)) (.slice none 0 0) (.slice none 0 0) 1)] := by simp only [List.mem_cons, List.mem_append]; exact .inr (.inr (.inr (.inr (.inr (.inl (mem_ndL d2).2.2)))))
    have hxs : d.rr.xs = fb.roots.map q.a := d8
    have hlen : d.rr.xs.length = fb.roots.length := by rw [hxs, List.length_map]
    rcases Nat.eq_or_lt_of_le hj with hjl | hjl
    · obtain ⟨A, c, hv, hc⟩ := Rw.shape hS hrow
      refine go ?_
      rw [hv]
      refine go ?_
      have hd0 : decide ((j : Int) < (d.rr.xs.length : Int)) = false := decide_eq_false (by omega)
      rw [hd0]
      refine go ?_
      obtain ⟨S3, hS⟩ := seq_close k hS
      refine WP.exit (QN.tx (QN.tx (QN.exitJ j (Sub.C1 rfl (Sub.C1 rfl (Sub.C1 rfl (Sub.C1 rfl (Sub.C1 rfl (Sub.C1 rfl Sub.nil)))))) ⟨?_, S3, hS⟩)))
      exact (kR_eq hj hal fun y hy => absurd (List.getElem?_eq_some_iff.1 hy).1 (by omega)).symm
    · obtain ⟨y, hy⟩ : ∃ y, fb.roots[j]? = some y := ⟨_, List.getElem?_eq_getElem hjl⟩
      obtain ⟨fl, fr', hn⟩ := Fo.nth_root _ _ _ hy
      have hAy := (At.below hA (.inr (At.ofNth (some l) false hn)))
      have hyl := (k.ok.mem y).1 hAy.mem.1
      have hps := Fo.pre_succ _ _ _ _ _ hn
      have hple := Fo.pre_le (j + 1) fb
      obtain ⟨g, c', hv', _, _, _⟩ := hS.ownAt hrow (by omega)
      have hsm := hS.ownSl hrow
      rw [hv'] at hsm
      have hxe : (d.rr.xs.map pA)[j * 1]? = some (pA (q.a y)) := by rw [Nat.mul_one, hxs, List.map_map, List.getElem?_map, hy]; rfl
      have hd0 : decide ((j : Int) < (d.rr.xs.length : Int)) = true := decide_eq_true (by omega)
      refine go ?_
      rw [hv']
      refine go ?_
      rw [hd0]
      refine go ?_
      rw [hv']
      refine go ?_
      refine RL.ldE T_ok hsm hxe rfl rfl rfl rfl rfl rfl ?_
      refine go ?_
      obtain ⟨S3, hS⟩ := seq_close k hS
      refine RL.callM (F := []) (fi := []) (ca := []) hS (ahead_s S3 s q [blkA b 178 (nC x (some (q.a l)) (.slice none 0 0) (.slice none 0 0) 1)] (q.a y) b (q.u y) x (.inl ⟨y, hyl, rfl, rfl⟩) (.inr ⟨_, _, _, _, zS ..⟩)) rfl rfl rfl rfl (Sels.self _) ?_
      clear hS hrow hsm
      rintro _ m _ ⟨rfl, S4, rfl⟩ hS
      simp only [zC, zN] at hS
      refine ⟨_, rfl, ?_⟩
      cases hah : q.ahead (q.u y) x with
      | false =>
        refine go ?_
        refine WP.exit (QN.tx (QN.tx (QN.exitJ j (Sub.C1 rfl (Sub.C1 rfl (Sub.C1 rfl (Sub.C1 rfl (Sub.C1 rfl (Sub.C1 rfl Sub.nil)))))) ⟨?_, S4, hS⟩)))
        exact (kR_eq hj hal fun y' hy' => by rw [hy] at hy'; cases hy'; exact hah).symm
      | true =>
        clear k
        obtain ⟨ra, rt, fr, at_, ord, ro, N, k, hS⟩ := seq_open hS
        obtain ⟨dy, y1, y2, y3, y4, y5, y6, y7, y8⟩ := k.node ht hyl hAy
        have hN' : blkA (q.a y) 178 (nC (q.u y) dy.p dy.rl.v dy.rr.v dy.sz) ∈ ndL N ++ [blkA b 178 (nC x (some (q.a l)) (.slice none 0 0) (.slice none 0 0) 1)] := by rw [← y4, ← y3]; exact List.mem_append_left _ (mem_ndL y2).1
        obtain ⟨d, d1, d2, d3, d4, d5, d6, d7, d8⟩ := k.node ht hl hA
        have hN : blkA (q.a l) 178 (nC (q.u l) d.p d.rl.v d.rr.v d.sz) ∈ ndL N ++ [blkA b 178 (nC x (some (q.a l)) (.slice none 0 0) (.slice none 0 0) 1)] := by rw [← d4, ← d3]; exact List.mem_append_left _ (mem_ndL d2).1
        have hrow : ownA d.rr.S 176 1 d.rr.v d.rr.xs.length (d.rr.xs.map pA) ∈ sqH q s ra rt fr at_ ord ro N [blkA b 178 (nC x (some (q.a l)) (.slice none 0 0) (.slice none 0 0) 1)] := by simp only [List.mem_cons, List.mem_append]; exact .inr (.inr (.inr (.inr (.inr (.inl (mem_ndL d2).2.2)))))
        have hxs : d.rr.xs = fb.roots.map q.a := d8
        have hlen : d.rr.xs.length = fb.roots.length := by rw [hxs, List.length_map]
        obtain ⟨g, c', hv', _, _, _⟩ := hS.ownAt hrow (by omega)
        have hsm := hS.ownSl hrow
        rw [hv'] at hsm
        have hxe : (d.rr.xs.map pA)[j * 1]? = some (pA (q.a y)) := by rw [Nat.mul_one, hxs, List.map_map, List.getElem?_map, hy]; rfl
        refine go ?_
        rw [hv']
        refine go ?_
        refine RL.ldE T_ok hsm hxe rfl rfl rfl rfl rfl rfl ?_
        refine go ?_
        have hw : IntKind.i64.wrap ((j : Int) + 1) = ((j + 1 : Nat) : Int) := by rw [wrap_i64_in _ (by omega) (by omega)]; omega
        have hw2 : IntKind.i64.wrap (((q.place l + 1 + Fo.pre j fb : Nat) : Int) + (dy.sz : Int)) = ((q.place l + 1 + Fo.pre (j + 1) fb : Nat) : Int) := by
          rw [wrap_i64_in _ (by omega) (by omega)]; omega
        rw [hw, hw2]
        obtain ⟨S5, hS⟩ := seq_close k hS
        refine QN.round (j + 1) (Sub.C1 rfl (Sub.C1 rfl (Sub.C1 rfl (Sub.C1 rfl (Sub.C1 rfl (Sub.C1 rfl Sub.nil)))))) ⟨by omega, fun n y' hn' hy' => ?_, S5, hS⟩ (by omega)
        rcases Nat.eq_or_lt_of_le (Nat.le_of_lt_succ hn') with rfl | hn'
        · rw [hy] at hy'
          cases hy'
          exact hah
        · exact hal n y' hn' hy'
  · clear hS
    rintro _ m ⟨rfl, S1, hS⟩
    refine QN.bx ?_
    obtain ⟨ra, rt, fr, at_, ord, ro, N, k, hS⟩ := seq_open hS
    obtain ⟨d, d1, d2, d3, d4, d5, d6, d7, d8⟩ := k.node ht hl hA
    have hS := hS.perm (sqH_focus d1)
    have eA : d.A = blkA (q.a l) 178 (nC (q.u l) d.p d.rl.v d.rr.v d.sz) := by rw [Nd.A, d3, d4]
    have hS : Tr m0 (ofps [seqA S s q, blkA b 178 (nC x none (.slice none 0 0) (.slice none 0 0) 1)]) X m (blkA (q.a l) 178 (nC (q.u l) d.p d.rl.v d.rr.v d.sz) :: d.rl.A :: ownA d.rr.S 176 1 d.rr.v d.rr.xs.length (d.rr.xs.map pA) :: sqH q s ra rt fr at_ ord ro (N.eraseIdx l) [blkA b 178 (nC x (some (q.a l)) (.slice none 0 0) (.slice none 0 0) 1)]) := by rw [← eA]; exact hS
    have hxs : d.rr.xs = fb.roots.map q.a := d8
    have hki : q.kR fb.roots x ≤ d.rr.xs.length := by rw [hxs, List.length_map]; exact Us.takeWhile_le _ fb.roots
    have hlen : d.rr.xs.length = fb.roots.length := by rw [hxs, List.length_map]
    refine go ?_
    refine RL.buildSliceM T_ok hS [.tmp 65] [pA b] rfl rfl rfl rfl rfl rfl (by intro u hu; simp only [List.mem_singleton] at hu; subst hu; rfl) rfl rfl rfl ?_
    clear hS
    intro b' m hS
    refine ⟨_, rfl, ?_⟩
    refine RL.callM (fi := []) (ca := []) hS (insN_s d.rr.v (.slice (some ⟨b', 0, none⟩) 1 1) d.rr.S [b'] d.rr.xs.length (q.kR fb.roots x) 1 (d.rr.xs.map pA) [pA b] hki (by omega) (by omega) (fun z hz => by obtain ⟨_, _, rfl⟩ := List.mem_map.1 hz; rfl) (fun z hz => by simp only [List.mem_singleton] at hz; subst hz; rfl)) rfl rfl rfl rfl (by repeat (first | with_reducible exact Sels.nil | apply Sels.ro (by with_reducible repeat (first | exact zS .. | apply zO)) (by rfl) | apply Sels.own (by with_reducible repeat (first | exact Sel.head | apply Sel.tail)))) ?_
    clear hS
    rintro v' m _ ⟨S', rfl⟩ hS
    simp only [zC, zN] at hS
    obtain ⟨A2, c2, rfl, _⟩ := hS.shape
    refine ⟨_, rfl, ?_⟩
    refine go ?_
    refine RL.storeM T_ok hS rfl rfl rfl rfl (by rfl) (by rfl) (by with_reducible repeat (first | exact Rep.head | apply Rep.tail)) (by rfl) ?_; (try clear hS); intro m hS
    refine go ?_
    have eR : (Rw.mk S' (.slice A2 (d.rr.xs.length + 1) c2) (insAt (q.kR fb.roots x) b d.rr.xs)).A = ownA S' 176 1 (.slice A2 (d.rr.xs.length + 1) c2) (d.rr.xs.length + 1) ((d.rr.xs.map pA).take (q.kR fb.roots x * 1) ++ [pA b] ++ (d.rr.xs.map pA).drop (q.kR fb.roots x * 1)) := by simp only [Rw.A, insAt_length, insAt_map]; simp [insAt]
    have eB : Nd.A { d with rr := (Rw.mk S' (.slice A2 (d.rr.xs.length + 1) c2) (insAt (q.kR fb.roots x) b d.rr.xs)) } = blkA (q.a l) 178 (nC (q.u l) d.p d.rl.v (.slice A2 (d.rr.xs.length + 1) c2) d.sz) := by simp only [Nd.A, d3, d4]
    have hS : Tr m0 (ofps [seqA S s q, blkA b 178 (nC x none (.slice none 0 0) (.slice none 0 0) 1)]) X m (blkA (q.a l) 178 (nC (q.u l) d.p d.rl.v (.slice A2 (d.rr.xs.length + 1) c2) d.sz) :: d.rl.A :: (Rw.mk S' (.slice A2 (d.rr.xs.length + 1) c2) (insAt (q.kR fb.roots x) b d.rr.xs)).A :: sqH q s ra rt fr at_ ord ro (N.eraseIdx l) [blkA b 178 (nC x (some (q.a l)) (.slice none 0 0) (.slice none 0 0) 1)]) := by rw [eR]; exact hS.perm ((List.perm_middle (l₁ := [_, _]) (l₂ := _)).symm)
    rw [← eB] at hS
    exact QN.ret1 rfl rfl ⟨_, rfl, _, ⟨rfl, ra, rt, fr, at_, ord, ro, N, d, (Rw.mk S' (.slice A2 (d.rr.xs.length + 1) c2) (insAt (q.kR fb.roots x) b d.rr.xs)), k, d1, rfl, rfl⟩, hS.perm (sqH_set _ d1)⟩
theorem rightR_s (S : List Nat) (s b : Nat) (q : Sq) (x : Un) (ht : q.tr = true) (hq : q.Ok) (few : q.us.length < 1000000) : DoS Tryz.prog 262 [pA s, pA b, .pointer none] [seqA S s q, blkA b 178 (nC x none (.slice none 0 0) (.slice none 0 0) 1)]
    (fun v H => v = .int .i64 (0 + Fo.pre (q.kR q.F.roots x) q.F : Nat) ∧ ∃ ra rt fr at_ ord ro N R, SOk q fr at_ ord ro N ∧ R.xs = insAt (q.kR q.F.roots x) b ro.xs ∧ H = sqH q s ra rt fr at_ ord R N [blkA b 178 (nC x none (.slice none 0 0) (.slice none 0 0) 1)]) := by
  intro m0 X hS
  refine FnE.enter ⟨_, Tryz.func262, by kernel_rfl, by kernel_rfl⟩ Tryz.func262 rfl rfl ?_
  refine go ?_
  refine RL.storeM T_ok hS rfl rfl rfl rfl (by rfl) (by rfl) (by with_reducible repeat (first | exact Rep.head | apply Rep.tail)) (by rfl) ?_; (try clear hS); intro m hS
  have hS : Tr m0 _ X m [seqA S s q, blkA b 178 (nC x none (.slice none 0 0) (.slice none 0 0) 1)] := hS
  have pl1 : q.F.sz = q.us.length := hq.flen
  obtain ⟨S2, hS2⟩ : ∃ S2, S = S2 := ⟨S, rfl⟩
  refine go ?_
  have hrl := roots_le q.F
  refine (WP.loopX (X := Nat) (fun j => [(0, pA s), (1, pA b), (2, .pointer none), (7, .pointer (some (Addr.add ⟨s, 0, none⟩ 2))), (8, .int .i64 (0 + Fo.pre j q.F : Nat)), (9, .int .i64 j)])
    (fun j m' => j ≤ q.F.roots.length ∧ (∀ n y, n < j → q.F.roots[n]? = some y → q.ahead (q.u y) x = true) ∧ ∃ S', Tr m0 (ofps [seqA S s q, blkA b 178 (nC x none (.slice none 0 0) (.slice none 0 0) 1)]) X m' [seqA S' s q, blkA b 178 (nC x none (.slice none 0 0) (.slice none 0 0) 1)])
    (fun j m' => j = q.kR q.F.roots x ∧ ∃ S', Tr m0 (ofps [seqA S s q, blkA b 178 (nC x none (.slice none 0 0) (.slice none 0 0) 1)]) X m' [seqA S' s q, blkA b 178 (nC x none (.slice none 0 0) (.slice none 0 0) 1)]) (fun j => q.F.roots.length - j) 0 0
    (Sub.C1 rfl (Sub.C1 rfl (Sub.C1 rfl (Sub.C1 rfl (Sub.C1 rfl (Sub.C1 rfl Sub.nil)))))) ⟨Nat.zero_le _, fun n y hn => (by omega), _, hS⟩ ?_ ?_)
  · clear hS
    rintro j m ⟨hj, hal, S1, hS⟩
    dsimp only at hj hal hS ⊢
    obtain ⟨ra, rt, fr, at_, ord, ro, N, k, hS⟩ := seq_open hS
    have hrow : ownA ro.S 176 1 ro.v ro.xs.length (ro.xs.map pA) ∈ sqH q s ra rt fr at_ ord ro N [blkA b 178 (nC x none (.slice none 0 0) (.slice none 0 0) 1)] := .tail _ (.tail _ (.tail _ (.tail _ (.head _))))
    have hxs : ro.xs = q.F.roots.map q.a := k.r ht
    have hlen : ro.xs.length = q.F.roots.length := by rw [hxs, List.length_map]
    rcases Nat.eq_or_lt_of_le hj with hjl | hjl
    · obtain ⟨A, c, hv, hc⟩ := Rw.shape hS hrow
      refine go ?_
      rw [hv]
      refine go ?_
      have hd0 : decide ((j : Int) < (ro.xs.length : Int)) = false := decide_eq_false (by omega)
      rw [hd0]
      refine go ?_
      obtain ⟨S3, hS⟩ := seq_close k hS
      refine WP.exit (QN.tx (QN.tx (QN.exitJ j (Sub.C1 rfl (Sub.C1 rfl (Sub.C1 rfl (Sub.C1 rfl (Sub.C1 rfl (Sub.C1 rfl Sub.nil)))))) ⟨?_, S3, hS⟩)))
      exact (kR_eq hj hal fun y hy => absurd (List.getElem?_eq_some_iff.1 hy).1 (by omega)).symm
    · obtain ⟨y, hy⟩ : ∃ y, q.F.roots[j]? = some y := ⟨_, List.getElem?_eq_getElem hjl⟩
      obtain ⟨fl, fr', hn⟩ := Fo.nth_root _ _ _ hy
      have hAy := (At.ofNth none false hn)
      have hyl := (k.ok.mem y).1 hAy.mem.1
      have hps := Fo.pre_succ _ _ _ _ _ hn
      have hple := Fo.pre_le (j + 1) q.F
      obtain ⟨g, c', hv', _, _, _⟩ := hS.ownAt hrow (by omega)
      have hsm := hS.ownSl hrow
      rw [hv'] at hsm
      have hxe : (ro.xs.map pA)[j * 1]? = some (pA (q.a y)) := by rw [Nat.mul_one, hxs, List.map_map, List.getElem?_map, hy]; rfl
      have hd0 : decide ((j : Int) < (ro.xs.length : Int)) = true := decide_eq_true (by omega)
      refine go ?_
      rw [hv']
      refine go ?_
      rw [hd0]
      refine go ?_
      rw [hv']
      refine go ?_
      refine RL.ldE T_ok hsm hxe rfl rfl rfl rfl rfl rfl ?_
      refine go ?_
      obtain ⟨S3, hS⟩ := seq_close k hS
      refine RL.callM (F := []) (fi := []) (ca := []) hS (ahead_s S3 s q [blkA b 178 (nC x none (.slice none 0 0) (.slice none 0 0) 1)] (q.a y) b (q.u y) x (.inl ⟨y, hyl, rfl, rfl⟩) (.inr ⟨_, _, _, _, zS ..⟩)) rfl rfl rfl rfl (Sels.self _) ?_
      clear hS hrow hsm
      rintro _ m _ ⟨rfl, S4, rfl⟩ hS
      simp only [zC, zN] at hS
      refine ⟨_, rfl, ?_⟩
      cases hah : q.ahead (q.u y) x with
      | false =>
        refine go ?_
        refine WP.exit (QN.tx (QN.tx (QN.exitJ j (Sub.C1 rfl (Sub.C1 rfl (Sub.C1 rfl (Sub.C1 rfl (Sub.C1 rfl (Sub.C1 rfl Sub.nil)))))) ⟨?_, S4, hS⟩)))
        exact (kR_eq hj hal fun y' hy' => by rw [hy] at hy'; cases hy'; exact hah).symm
      | true =>
        clear k
        obtain ⟨ra, rt, fr, at_, ord, ro, N, k, hS⟩ := seq_open hS
        obtain ⟨dy, y1, y2, y3, y4, y5, y6, y7, y8⟩ := k.node ht hyl hAy
        have hN' : blkA (q.a y) 178 (nC (q.u y) dy.p dy.rl.v dy.rr.v dy.sz) ∈ ndL N ++ [blkA b 178 (nC x none (.slice none 0 0) (.slice none 0 0) 1)] := by rw [← y4, ← y3]; exact List.mem_append_left _ (mem_ndL y2).1
        have hrow : ownA ro.S 176 1 ro.v ro.xs.length (ro.xs.map pA) ∈ sqH q s ra rt fr at_ ord ro N [blkA b 178 (nC x none (.slice none 0 0) (.slice none 0 0) 1)] := .tail _ (.tail _ (.tail _ (.tail _ (.head _))))
        have hxs : ro.xs = q.F.roots.map q.a := k.r ht
        have hlen : ro.xs.length = q.F.roots.length := by rw [hxs, List.length_map]
        obtain ⟨g, c', hv', _, _, _⟩ := hS.ownAt hrow (by omega)
        have hsm := hS.ownSl hrow
        rw [hv'] at hsm
        have hxe : (ro.xs.map pA)[j * 1]? = some (pA (q.a y)) := by rw [Nat.mul_one, hxs, List.map_map, List.getElem?_map, hy]; rfl
        refine go ?_
        rw [hv']
        refine go ?_
        refine RL.ldE T_ok hsm hxe rfl rfl rfl rfl rfl rfl ?_
        refine go ?_
        have hw : IntKind.i64.wrap ((j : Int) + 1) = ((j + 1 : Nat) : Int) := by rw [wrap_i64_in _ (by omega) (by omega)]; omega
        have hw2 : IntKind.i64.wrap (((0 + Fo.pre j q.F : Nat) : Int) + (dy.sz : Int)) = ((0 + Fo.pre (j + 1) q.F : Nat) : Int) := by
          rw [wrap_i64_in _ (by omega) (by omega)]; omega
        rw [hw, hw2]
        obtain ⟨S5, hS⟩ := seq_close k hS
        refine QN.round (j + 1) (Sub.C1 rfl (Sub.C1 rfl (Sub.C1 rfl (Sub.C1 rfl (Sub.C1 rfl (Sub.C1 rfl Sub.nil)))))) ⟨by omega, fun n y' hn' hy' => ?_, S5, hS⟩ (by omega)
        rcases Nat.eq_or_lt_of_le (Nat.le_of_lt_succ hn') with rfl | hn'
        · rw [hy] at hy'
          cases hy'
          exact hah
        · exact hal n y' hn' hy'
  · clear hS
    rintro _ m ⟨rfl, S1, hS⟩
    refine QN.bx ?_
    obtain ⟨ra, rt, fr, at_, ord, ro, N, k, hS⟩ := seq_open hS
    have hS : Tr m0 (ofps [seqA S s q, blkA b 178 (nC x none (.slice none 0 0) (.slice none 0 0) 1)]) X m (blkA s 175 [.map (some ra), ord.v, ro.v, .map (some rt), .bool fr] :: mapA ra iV q.allE :: mapA rt iV at_ :: ord.A :: ownA ro.S 176 1 ro.v ro.xs.length (ro.xs.map pA) :: (ndL N ++ [blkA b 178 (nC x none (.slice none 0 0) (.slice none 0 0) 1)])) := hS
    have hxs : ro.xs = q.F.roots.map q.a := k.r ht
    have hki : q.kR q.F.roots x ≤ ro.xs.length := by rw [hxs, List.length_map]; exact Us.takeWhile_le _ q.F.roots
    have hlen : ro.xs.length = q.F.roots.length := by rw [hxs, List.length_map]
    refine go ?_
    refine RL.buildSliceM T_ok hS [.tmp 65] [pA b] rfl rfl rfl rfl rfl rfl (by intro u hu; simp only [List.mem_singleton] at hu; subst hu; rfl) rfl rfl rfl ?_
    clear hS
    intro b' m hS
    refine ⟨_, rfl, ?_⟩
    refine RL.callM (fi := []) (ca := []) hS (insN_s ro.v (.slice (some ⟨b', 0, none⟩) 1 1) ro.S [b'] ro.xs.length (q.kR q.F.roots x) 1 (ro.xs.map pA) [pA b] hki (by omega) (by omega) (fun z hz => by obtain ⟨_, _, rfl⟩ := List.mem_map.1 hz; rfl) (fun z hz => by simp only [List.mem_singleton] at hz; subst hz; rfl)) rfl rfl rfl rfl (by repeat (first | with_reducible exact Sels.nil | apply Sels.ro (by with_reducible repeat (first | exact zS .. | apply zO)) (by rfl) | apply Sels.own (by with_reducible repeat (first | exact Sel.head | apply Sel.tail)))) ?_
    clear hS
    rintro v' m _ ⟨S', rfl⟩ hS
    simp only [zC, zN] at hS
    obtain ⟨A2, c2, rfl, _⟩ := hS.shape
    refine ⟨_, rfl, ?_⟩
    refine go ?_
    refine RL.storeM T_ok hS rfl rfl rfl rfl (by rfl) (by rfl) (by with_reducible repeat (first | exact Rep.head | apply Rep.tail)) (by rfl) ?_; (try clear hS); intro m hS
    refine go ?_
    have eR : (Rw.mk S' (.slice A2 (ro.xs.length + 1) c2) (insAt (q.kR q.F.roots x) b ro.xs)).A = ownA S' 176 1 (.slice A2 (ro.xs.length + 1) c2) (ro.xs.length + 1) ((ro.xs.map pA).take (q.kR q.F.roots x * 1) ++ [pA b] ++ (ro.xs.map pA).drop (q.kR q.F.roots x * 1)) := by simp only [Rw.A, insAt_length, insAt_map]; simp [insAt]
    refine QN.ret1 rfl rfl ⟨_, rfl, _, ⟨rfl, ra, rt, fr, at_, ord, ro, N, (Rw.mk S' (.slice A2 (ro.xs.length + 1) c2) (insAt (q.kR q.F.roots x) b ro.xs)), k, rfl, rfl⟩, ?_⟩
    show Tr m0 (ofps [seqA S s q, blkA b 178 (nC x none (.slice none 0 0) (.slice none 0 0) 1)]) X m (_ :: _ :: _ :: _ :: (Rw.mk S' (.slice A2 (ro.xs.length + 1) c2) (insAt (q.kR q.F.roots x) b ro.xs)).A :: _)
    rw [eR]
    exact hS.perm ((List.perm_middle (l₁ := [_, _, _, _]) (l₂ := _)).symm)
end Go.Proofs.YtgpgladbdoimdaaGreatDoor
end
section
namespace Go.Proofs.YtgpgladbdoimdaaGreatDoor
open Go.RowKit Go.Ev Go.Ids Go.SeqP
theorem path_nodup {p : Nat} : ∀ {f : Fo} {up : List Nat}, up.Nodup → (∀ k ∈ up, k ∉ f.flat) → f.flat.Nodup → (Fo.path up f p).Nodup
  | .nil, _, _, _, _ => by simp [Fo.path]
  | .cons i l r n, up, h1, h2, nd => by
    obtain ⟨n1, n2, n3, i1, i2, i3, d1, d2⟩ := Fo.nd_cons nd
    have hi : i ∉ up := fun hh => h2 i hh (by simp [Fo.flat])
    unfold Fo.path
    split
    · rename_i hh; subst hh; exact List.nodup_cons.2 ⟨hi, h1⟩
    · split
      · refine path_nodup (List.nodup_cons.2 ⟨hi, h1⟩) (fun k hk hl => ?_) n1
        rcases List.mem_cons.1 hk with rfl | hk
        · exact i1 hl
        · exact h2 k hk (by simp [Fo.flat, hl])
      · split
        · refine path_nodup (List.nodup_cons.2 ⟨hi, h1⟩) (fun k hk hl => ?_) n2
          rcases List.mem_cons.1 hk with rfl | hk
          · exact i2 hl
          · exact h2 k hk (by simp [Fo.flat, hl])
        · exact path_nodup h1 (fun k hk hl => h2 k hk (by simp [Fo.flat, hl])) n3
def bump (N : List Nd) (up : List Nat) (c : Nat) : List Nd := N.mapIdx fun i d => if i ∈ up then { d with sz := d.sz + c } else d
theorem bump_get {N : List Nd} {up : List Nat} {c i : Nat} : (bump N up c)[i]? = (N[i]?).map fun d => if i ∈ up then { d with sz := d.sz + c } else d := by simp [bump]
theorem bump_nil (N : List Nd) (c : Nat) : bump N [] c = N := by
  refine List.ext_getElem? fun i => ?_
  rw [bump_get]; simp
theorem bump_len (N : List Nd) (up : List Nat) (c : Nat) : (bump N up c).length = N.length := by simp [bump]
theorem bump_a (N : List Nd) (up : List Nat) (c : Nat) : (bump N up c).map (·.a) = N.map (·.a) := by
  refine List.ext_getElem? fun i => ?_
  simp only [List.getElem?_map, bump_get, Option.map_map]
  congr 1; funext d; simp only [Function.comp]; split <;> rfl
theorem bump_u (N : List Nd) (up : List Nat) (c : Nat) : (bump N up c).map (·.u) = N.map (·.u) := by
  refine List.ext_getElem? fun i => ?_
  simp only [List.getElem?_map, bump_get, Option.map_map]
  congr 1; funext d; simp only [Function.comp]; split <;> rfl
theorem bump_set {N : List Nd} {up : List Nat} {c t : Nat} {d : Nd} (h : N[t]? = some d) (_ : t ∉ up) : (bump N up c).set t { d with sz := d.sz + c } = bump N (up ++ [t]) c := by
  have ht := (List.getElem?_eq_some_iff.1 h).1
  refine List.ext_getElem? fun i => ?_
  rw [List.getElem?_set, bump_len]
  by_cases hi : t = i
  · subst hi
    rw [if_pos rfl, if_pos ht, bump_get, h]
    simp
  · rw [if_neg hi, bump_get, bump_get]
    have : i ∈ up ++ [t] ↔ i ∈ up := by simp [Ne.symm hi]
    simp only [this]
structure Mid (b : Nat) (pa : Option Nat) (sd : Bool) (k : Nat) (N N1 : List Nd) (ro ro1 : Rw) : Prop where
  ro : ro1.xs = if pa = none then insAt k b ro.xs else ro.xs
  a : N1.map (·.a) = N.map (·.a)
  u : N1.map (·.u) = N.map (·.u)
  nd : ∀ {i : Nat} {d : Nd}, N[i]? = some d → ∃ d1, N1[i]? = some d1 ∧ d1.p = d.p ∧ d1.sz = d.sz ∧ d1.rl.xs = (if pa = some i ∧ sd = true then insAt k b d.rl.xs else d.rl.xs) ∧ d1.rr.xs = (if pa = some i ∧ sd = false then insAt k b d.rr.xs else d.rr.xs)
theorem map_set_same {α : Type} (f : Nd → α) {N : List Nd} {i : Nat} {d d' : Nd} (h : N[i]? = some d) (hf : f d' = f d) : (N.set i d').map f = N.map f := by
  refine List.ext_getElem? fun j => ?_
  rw [List.getElem?_map, List.getElem?_map, List.getElem?_set]
  split
  · rename_i hj
    subst hj
    rw [if_pos (List.getElem?_eq_some_iff.1 h).1, h]
    simp [hf]
  · rfl
theorem Mid.left {b t k : Nat} {N : List Nd} {ro R : Rw} {d : Nd} (h : N[t]? = some d) (hR : R.xs = insAt k b d.rl.xs) : Mid b (some t) true k N (N.set t { d with rl := R }) ro ro where
  ro := by simp
  a := map_set_same (·.a) h rfl
  u := map_set_same (·.u) h rfl
  nd := fun {i e} hi => by
    by_cases hit : t = i
    · subst hit
      rw [h] at hi
      cases hi
      refine ⟨{ d with rl := R }, by simp [(List.getElem?_eq_some_iff.1 h).1], rfl, rfl, by simp [hR], by simp⟩
    · exact ⟨e, by rw [List.getElem?_set, if_neg hit, hi], rfl, rfl, by simp [hit], by simp⟩
theorem Mid.right {b t k : Nat} {N : List Nd} {ro R : Rw} {d : Nd} (h : N[t]? = some d) (hR : R.xs = insAt k b d.rr.xs) : Mid b (some t) false k N (N.set t { d with rr := R }) ro ro where
  ro := by simp
  a := map_set_same (·.a) h rfl
  u := map_set_same (·.u) h rfl
  nd := fun {i e} hi => by
    by_cases hit : t = i
    · subst hit
      rw [h] at hi
      cases hi
      refine ⟨{ d with rr := R }, by simp [(List.getElem?_eq_some_iff.1 h).1], rfl, rfl, by simp, by simp [hR]⟩
    · exact ⟨e, by rw [List.getElem?_set, if_neg hit, hi], rfl, rfl, by simp, by simp [hit]⟩
theorem Mid.root {b k : Nat} {N : List Nd} {ro R : Rw} (hR : R.xs = insAt k b ro.xs) : Mid b none false k N N ro R where
  ro := by simp [hR]
  a := rfl
  u := rfl
  nd := fun {i e} hi => ⟨e, hi, rfl, rfl, by simp, by simp⟩
def Sq.one (q : Sq) (x : Un) (b : Nat) : Sq := ⟨q.put x, q.ad ++ [b], true⟩
theorem Sq.one_a {q : Sq} {x : Un} {b i : Nat} (hl : q.ad.length = q.us.length) (h : i < q.us.length) : (q.one x b).a i = q.a i := by
  simp [Sq.a, Sq.one, List.getD_eq_getElem?_getD, List.getElem?_append_left (show i < q.ad.length by omega)]
theorem Sq.one_new {q : Sq} {x : Un} {b : Nat} (hl : q.ad.length = q.us.length) : (q.one x b).a q.us.length = b := by
  simp [Sq.a, Sq.one, List.getD_eq_getElem?_getD, ← hl]
theorem Sq.one_map {q : Sq} {x : Un} {b : Nat} (hl : q.ad.length = q.us.length) {l : List Nat} (h : ∀ i ∈ l, i < q.us.length) : l.map (q.one x b).a = l.map q.a := List.map_congr_left fun i hi => Sq.one_a hl (h i hi)
theorem insAt_one {q : Sq} {x : Un} {b k : Nat} (hl : q.ad.length = q.us.length) {l : List Nat} (h : ∀ i ∈ l, i < q.us.length) : (insAt k q.us.length l).map (q.one x b).a = insAt k b (l.map q.a) := by
  rw [insAt_map, Sq.one_new hl, Sq.one_map hl h]
theorem SOk.one {q : Sq} {fr : Bool} {at_ : List (Idn × Value)} {ord ro ord1 ro1 : Rw} {N N1 : List Nd} {x : Un} {b k : Nat} {pa : Option Nat} {sd : Bool} {up : List Nat} (h : SOk q fr at_ ord ro N) (ht : q.tr = true) (hm : q.may x = true) (few : q.us.length < 1000000)
    (g : Grown q.F (q.put x).F q.us.length pa sd k up (q.pl x)) (md : Mid b pa sd k N N1 ro ro1) (ho : ord1.xs = insAt (q.pl x) b ord.xs) (rn : Rw) (hr : rn.xs = []) : SOk (q.one x b) false at_ ord1 ro1 (bump N1 up 1 ++ [⟨b, x, pa.map q.a, 1, rn, rn⟩]) := by
  have hl := h.adl
  have hid : q.idx x.id = none := by
    simp only [Us.may, Bool.and_eq_true, Option.isNone_iff_eq_none] at hm
    exact hm.1.1.1.2
  have hri : x.id.right = true := by
    simp only [Us.may, Bool.and_eq_true] at hm
    exact hm.1.1.1.1
  have hok := h.ok.put hri hid
  have hlt : ∀ i ∈ q.F.flat, i < q.us.length := fun i hi => (h.ok.mem i).1 hi
  have hNl : N.length = q.us.length := by rw [← h.l.us, List.length_map]
  have hN1l : N1.length = q.us.length := by rw [← hNl, ← List.length_map (f := (·.a)), md.a, List.length_map]
  refine ⟨?_, fun _ => ?_, ⟨?_, ?_, fun _ i p s a' b' hA => ?_⟩, hok, ?_, fun hh => by cases hh⟩
  · rw [ho, h.o]
    show _ = (q.put x).F.flat.map _
    rw [g.flat, insAt_one hl hlt]
  · rw [md.ro, h.r ht]
    show _ = (q.put x).F.roots.map _
    rw [g.roots]
    split
    · rw [insAt_one hl fun i hi => hlt i (Fo.roots_sub _ i hi)]
    · rw [Sq.one_map hl fun i hi => hlt i (Fo.roots_sub _ i hi)]
  · rw [List.map_append, bump_a, md.a, h.l.ad]; rfl
  · rw [List.map_append, bump_u, md.u, h.l.us]; rfl
  · rcases g.old hA with ⟨rfl, rfl, rfl, rfl⟩ | ⟨hne, a, c, h1, h2, h3, h4⟩
    · refine ⟨⟨b, x, p.map q.a, 1, rn, rn⟩, ?_, ?_, by simp [Fo.sz, Fo.flat], by simp [hr, Fo.roots], by simp [hr, Fo.roots]⟩
      · rw [List.getElem?_append_right (by rw [bump_len]; omega), bump_len, hN1l]; simp
      · cases p with
        | none => rfl
        | some t =>
          have := g.new
          have ht : t ∈ q.F.flat ∨ t = q.us.length := by
            have h9 := hA.path (up := []) hok.nd (by simp)
            obtain ⟨t', _, hq, h10⟩ := h9
            rcases h10 with rfl | ⟨q', e, _, hm'⟩
            · cases hq
            · cases e
              rw [show (q.one x b).F = (q.put x).F from rfl, g.flat] at hm'
              rcases mem_insAt.1 hm' with e | e
              · exact .inr e
              · exact .inl e
          rcases ht with ht | rfl
          · simp [Sq.one_a hl (hlt t ht)]
          · exfalso
            have h9 := hA.onPath (up := []) (p := q.us.length) hok.nd (by simp) hA.mem.1
            obtain ⟨t', e1, hq, h10⟩ := hA.path (up := []) hok.nd (by simp)
            rcases h10 with rfl | ⟨q', e, e2, _⟩
            · cases hq
            · cases e
              rw [e1] at e2
              exact absurd (congrArg List.length e2) (by simp)
    · have hi : i < q.us.length := hlt i h1.mem.1
      obtain ⟨d, d1, d2, d3, d4, d5, d6, d7, d8⟩ := h.node ht hi h1
      obtain ⟨e, e1, e2, e3, e4, e5⟩ := md.nd d1
      refine ⟨if i ∈ up then { e with sz := e.sz + 1 } else e, ?_, ?_, ?_, ?_, ?_⟩
      · rw [List.getElem?_append_left (by rw [bump_len]; omega), bump_get, e1]; rfl
      · have : (if i ∈ up then { e with sz := e.sz + 1 } else e).p = e.p := by split <;> rfl
        rw [this, e2, d5]
        cases p with
        | none => rfl
        | some t =>
          obtain ⟨t', _, hq, h10⟩ := h1.path (up := []) h.ok.nd (by simp)
          rcases h10 with rfl | ⟨q', e, _, hm'⟩
          · cases hq
          · cases e; simp [Sq.one_a hl (hlt t hm')]
      · split
        · rename_i hup
          rw [if_pos hup] at h4
          simp only [e3, d6]; omega
        · rename_i hup
          rw [if_neg hup] at h4
          rw [e3, d6]; omega
      · have : (if i ∈ up then { e with sz := e.sz + 1 } else e).rl = e.rl := by split <;> rfl
        rw [this, e4, h2, d7]
        have hs : ∀ y ∈ a.roots, y < q.us.length := fun y hy => hlt y (h1.mem.2.1 y (Fo.roots_sub _ y hy))
        split
        · rw [insAt_one hl hs]
        · rw [Sq.one_map hl hs]
      · have : (if i ∈ up then { e with sz := e.sz + 1 } else e).rr = e.rr := by split <;> rfl
        rw [this, e5, h3, d8]
        have hs : ∀ y ∈ c.roots, y < q.us.length := fun y hy => hlt y (h1.mem.2.2 y (Fo.roots_sub _ y hy))
        split
        · rw [insAt_one hl hs]
        · rw [Sq.one_map hl hs]
  · show (q.put x).us.length ≤ _
    rw [Us.put_len]; omega
end Go.Proofs.YtgpgladbdoimdaaGreatDoor
end
section
namespace Go.Proofs.YtgpgladbdoimdaaGreatDoor
open Go.ChangeShapes Go.WideShapes Go.ChangeAt Go.RowKit Go.Ev Go.Ids Go.SeqP
set_option maxRecDepth 20000
set_option maxHeartbeats 2000000
theorem rep_sz {q : Sq} {s ra rt : Nat} {fr : Bool} {at_ : List (Idn × Value)} {ord ro : Rw} {N : List Nd} {F : List Asn} {i a0 : Nat} {d : Nd} (h : N[i]? = some d) (ha : d.a = a0) (c : Nat) :
    Rep (blkA a0 178 (nC d.u d.p d.rl.v d.rr.v d.sz)) (blkA a0 178 (nC d.u d.p d.rl.v d.rr.v (d.sz + c))) (sqH q s ra rt fr at_ ord ro N F) (sqH q s ra rt fr at_ ord ro (N.set i { d with sz := d.sz + c }) F) := by
  subst ha
  have h1 : Rep d.A (Nd.A { d with sz := d.sz + c }) (ndL N) (ndL (N.set i { d with sz := d.sz + c })) := rep_nd (d := d) (d' := { d with sz := d.sz + c }) rfl rfl h
  exact .tail (.tail (.tail (.tail (.tail (Rep.app h1 F)))))
def putI (m0 : World) (M0 X : List Nat) (s b b3 : Nat) (q : Sq) (x : Un) (m : World) : Prop := ∃ pa sd k up ra rt fr at_ ord ro N ro1 N1, Grown q.F (q.put x).F q.us.length pa sd k up (q.pl x) ∧ (pa = none → up = []) ∧ (∀ t, pa = some t → t ∈ q.F.flat ∧ up = Fo.path [] q.F t) ∧
  SOk q fr at_ ord ro N ∧ Mid b pa sd k N N1 ro ro1 ∧ Tr m0 M0 X m (sqH q s ra rt fr at_ ord ro1 N1 [blkA b 178 (nC x (pa.map q.a) (.slice none 0 0) (.slice none 0 0) 1), blkA b3 101 (uC x)])
theorem put_s (S : List Nat) (s : Nat) (q : Sq) (x : Un) (ht : q.tr = true) (hm : q.may x = true) (few : q.us.length < 1000000) : DoS Tryz.prog 229 [pA s, uV x] [seqA S s q] (fun _ H => ∃ S' b, H = [seqA S' s (q.one x b)]) := by
  intro m0 X hS
  have hq : q.Ok := by obtain ⟨_, _, _, _, _, _, _, k, _⟩ := seq_open hS; exact k.ok
  have hid : q.idx x.id = none := by
    simp only [Us.may, Bool.and_eq_true, Option.isNone_iff_eq_none] at hm
    exact hm.1.1.1.2
  refine FnE.enter ⟨_, Tryz.func229, by kernel_rfl, by kernel_rfl⟩ Tryz.func229 rfl rfl ?_
  refine go ?_
  refine RL.boxS hS rfl rfl rfl ?_; (try clear hS); intro b3 m hS; refine ⟨_, rfl, ?_⟩
  refine go ?_
  refine RL.boxS hS rfl rfl rfl ?_; (try clear hS); intro b m hS; refine ⟨_, rfl, ?_⟩
  have hS : Tr m0 (ofps [seqA S s q]) X m [blkA b 178 (nC x none (.slice none 0 0) (.slice none 0 0) 1), blkA b3 101 (uC x), seqA S s q] := hS
  have hS : Tr m0 (ofps [seqA S s q]) X m [seqA S s q, blkA b 178 (nC x none (.slice none 0 0) (.slice none 0 0) 1), blkA b3 101 (uC x)] := hS.perm (List.perm_append_comm (l₁ := [_, _]) (l₂ := [_]))
  obtain ⟨ra, rt, fr, at_, ord, ro, N, k, hS⟩ := seq_open hS
  have hN : blkA b3 101 (uC x) ∈ ndL N ++ [blkA b 178 (nC x none (.slice none 0 0) (.slice none 0 0) 1), blkA b3 101 (uC x)] := by simp
  have hgl := k.get x.l
  have hgr := k.get x.r
  refine go ?_
  refine RH.lookup T_ok PanicOk.calm idK rfl (by kernel_rfl) rfl rfl rfl rfl rfl rfl rfl (by with_reducible repeat (first | exact zS .. | apply zO)) hgl rfl ?_
  refine RH.lookup T_ok PanicOk.calm idK rfl (by kernel_rfl) rfl rfl rfl rfl rfl rfl rfl (by with_reducible repeat (first | exact zS .. | apply zO)) hgr rfl ?_
  refine go ?_
  obtain ⟨S2, hS⟩ := seq_close k hS
  clear hN hgl hgr k
  refine RL.tail (X := Unit) (fun _ => [(0, pA s), (3, pA b3), (4, pA b), (7, .int .i64 (q.pl x : Nat))]) (fun _ m => putI m0 (ofps [seqA S s q]) X s b b3 q x m) ?_ (fun tl => ?_)
  · clear hS
    rintro _ m ⟨pa, sd, kk, up, ra, rt, fr, at_, ord, ro, N, ro1, N1, g, g0, g3, k, md, hS⟩
    have hN : blkA b3 101 (uC x) ∈ ndL N1 ++ [blkA b 178 (nC x (pa.map q.a) (.slice none 0 0) (.slice none 0 0) 1), blkA b3 101 (uC x)] := by simp
    have hN' : blkA b 178 (nC x (pa.map q.a) (.slice none 0 0) (.slice none 0 0) 1) ∈ ndL N1 ++ [blkA b 178 (nC x (pa.map q.a) (.slice none 0 0) (.slice none 0 0) 1), blkA b3 101 (uC x)] := by simp
    refine go ?_
    clear hN hN'
    refine (WP.loopX (X := Option Nat) (fun i => [(0, pA s), (3, pA b3), (4, pA b), (7, .int .i64 (q.pl x : Nat)), (8, pO (i.map q.a))])
      (fun i m' => ∃ pre, up = pre ++ (match i with | none => [] | some t => Fo.path [] q.F t) ∧ (∀ t, i = some t → t ∈ q.F.flat) ∧ Tr m0 (ofps [seqA S s q]) X m' (sqH q s ra rt fr at_ ord ro1 (bump N1 pre 1) [blkA b 178 (nC x (pa.map q.a) (.slice none 0 0) (.slice none 0 0) 1), blkA b3 101 (uC x)]))
      (fun i m' => i = none ∧ Tr m0 (ofps [seqA S s q]) X m' (sqH q s ra rt fr at_ ord ro1 (bump N1 up 1) [blkA b 178 (nC x (pa.map q.a) (.slice none 0 0) (.slice none 0 0) 1), blkA b3 101 (uC x)]))
      (fun i => match i with | none => 0 | some t => (Fo.path [] q.F t).length) pa 0 (Sub.C1 rfl (Sub.C1 rfl (Sub.C1 rfl (Sub.C1 rfl (Sub.C1 rfl Sub.nil))))) ⟨[], ?_, fun t e => (g3 t e).1, by rw [bump_nil]; exact hS⟩ ?_ ?_)
    · cases pa with
      | none => rw [g0 rfl]; rfl
      | some t => rw [(g3 t rfl).2]; rfl
    · clear hS
      rintro i m ⟨pre, hup, hi, hS⟩
      cases i with
      | none =>
        refine go ?_
        refine WP.exit (QN.tx (QN.tx (QN.exitJ none (Sub.C1 rfl (Sub.C1 rfl (Sub.C1 rfl (Sub.C1 rfl (Sub.C1 rfl Sub.nil))))) ⟨rfl, ?_⟩)))
        rw [hup, List.append_nil]; exact hS
      | some t =>
        have hm' := hi t rfl
        have hup : up = pre ++ Fo.path [] q.F t := hup
        have htl := (hq.mem t).1 hm'
        obtain ⟨pp, ss, fa, fb, hA⟩ := Fo.At.of_mem none false hm'
        obtain ⟨d, d1, d2, d3, d4, d5, d6, d7, d8⟩ := k.node ht htl hA
        obtain ⟨e, e1, e2, e3, e4, e5⟩ := md.nd d1
        obtain ⟨t', p1, p2, p3⟩ := hA.path (up := []) hq.nd (by simp)
        have hnd := path_nodup (p := t) (f := q.F) (up := []) List.nodup_nil (by simp) hq.nd
        have hupn : up.Nodup := by
          cases pa with
          | none => rw [g0 rfl]; exact List.nodup_nil
          | some t0 => rw [(g3 t0 rfl).2]; exact path_nodup List.nodup_nil (by simp) hq.nd
        have htp : t ∉ pre := fun hh => by
          rw [hup, p1] at hupn
          exact (List.nodup_append.1 hupn).2.2 t hh t (zS ..) rfl
        have hget : (bump N1 pre 1)[t]? = some e := by rw [bump_get, e1]; simp [htp]
        have hea : e.a = q.a t := by
          have := congrArg (fun l => l[t]?) md.a
          simp only [List.getElem?_map, e1, d1, Option.map_some, Option.some.injEq] at this
          rw [this, d3]
        have hN2 : blkA (q.a t) 178 (nC e.u e.p e.rl.v e.rr.v e.sz) ∈ ndL (bump N1 pre 1) ++ [blkA b 178 (nC x (pa.map q.a) (.slice none 0 0) (.slice none 0 0) 1), blkA b3 101 (uC x)] := by rw [← hea]; exact List.mem_append_left _ (mem_ndL (List.mem_of_getElem? hget)).1
        obtain ⟨pl1, pl2⟩ := hq.place_at hA
        have hw : IntKind.i64.wrap ((e.sz : Int) + 1) = ((e.sz + 1 : Nat) : Int) := by rw [wrap_i64_in _ (by omega) (by omega)]; omega
        refine go ?_
        rw [hw]
        refine RL.storeM T_ok hS rfl rfl rfl rfl rfl rfl (rep_sz hget hea 1) rfl ?_
        clear hS hN2
        intro m hS
        have hb2 := bump_set (c := 1) e1 htp
        rw [hb2] at hS
        have hget2 : (bump N1 (pre ++ [t]) 1)[t]? = some { e with sz := e.sz + 1 } := by rw [bump_get, e1]; simp
        have hN2 : blkA (q.a t) 178 (nC e.u e.p e.rl.v e.rr.v (e.sz + 1)) ∈ ndL (bump N1 (pre ++ [t]) 1) ++ [blkA b 178 (nC x (pa.map q.a) (.slice none 0 0) (.slice none 0 0) 1), blkA b3 101 (uC x)] := by rw [← hea]; exact List.mem_append_left _ (mem_ndL (List.mem_of_getElem? hget2)).1
        refine go ?_
        rw [e2, d5]
        refine QN.round pp (Sub.C1 rfl (Sub.C1 rfl (Sub.C1 rfl (Sub.C1 rfl (Sub.C1 rfl Sub.nil))))) ⟨pre ++ [t], ?_, ?_, hS⟩ ?_
        · rcases p3 with rfl | ⟨q', rfl, p4, _⟩
          · simp only [List.head?_nil] at p2; subst p2; rw [hup, p1]; simp
          · rw [hup, p1, ← p4]; simp
        · rintro t2 rfl
          rcases p3 with rfl | ⟨q', h9, _, p5⟩
          · cases p2
          · cases h9; exact p5
        · rcases p3 with rfl | ⟨q', rfl, p4, _⟩
          · simp only [List.head?_nil] at p2; subst p2; show 0 < (Fo.path [] q.F t).length; rw [p1]; simp
          · show (Fo.path [] q.F q').length < (Fo.path [] q.F t).length; rw [p1, p4]; simp
    · clear hS
      rintro _ m ⟨rfl, hS⟩
      refine QN.bx ?_
      have hN : blkA b3 101 (uC x) ∈ ndL (bump N1 up 1) ++ [blkA b 178 (nC x (pa.map q.a) (.slice none 0 0) (.slice none 0 0) 1), blkA b3 101 (uC x)] := by simp
      refine go ?_
      refine RH.mapUpdateF (k := x.id) (v := pA b) T_ok hS idK rfl (by kernel_rfl) rfl rfl rfl rfl rfl rfl rfl (by with_reducible repeat (first | exact zS .. | apply zO)) (by with_reducible repeat (first | exact Rep.head | apply Rep.tail)) rfl (by kernel_rfl) ?_
      clear hS
      intro m hS
      have hle : g.le = g.le := rfl
      have hxs : ord.xs.length = q.us.length := by rw [k.o, List.length_map, hq.flen]
      have hpl : q.pl x ≤ ord.xs.length := by rw [hxs, ← hq.flen]; exact g.le
      have hS : Tr m0 (ofps [seqA S s q]) X m (blkA s 175 [.map (some ra), ord.v, ro1.v, .map (some rt), .bool fr] :: mapA ra iV (mset q.allE x.id (pA b)) :: mapA rt iV at_ :: ownA ord.S 176 1 ord.v ord.xs.length (ord.xs.map pA) :: ro1.A :: (ndL (bump N1 up 1) ++ [blkA b 178 (nC x (pa.map q.a) (.slice none 0 0) (.slice none 0 0) 1), blkA b3 101 (uC x)])) := hS
      refine QN.calm ?_
      (with_reducible repeat (first | refine QN.B1 ?_ | refine QN.N1 ?_))
      refine go ?_
      refine RL.buildSliceM T_ok hS [.tmp 76] [pA b] rfl rfl rfl rfl rfl rfl (by intro u hu; simp only [List.mem_singleton] at hu; subst hu; rfl) rfl rfl rfl ?_
      clear hS
      intro b' m hS
      refine ⟨_, rfl, ?_⟩
      refine RL.callM (fi := []) (ca := []) hS (insN_s ord.v (.slice (some ⟨b', 0, none⟩) 1 1) ord.S [b'] ord.xs.length (q.pl x) 1 (ord.xs.map pA) [pA b] hpl (by omega) (by omega) (fun z hz => by obtain ⟨_, _, rfl⟩ := List.mem_map.1 hz; rfl) (fun z hz => by simp only [List.mem_singleton] at hz; subst hz; rfl)) rfl rfl rfl rfl (by repeat (first | with_reducible exact Sels.nil | apply Sels.ro (by with_reducible repeat (first | exact zS .. | apply zO)) (by rfl) | apply Sels.own (by with_reducible repeat (first | exact Sel.head | apply Sel.tail)))) ?_
      clear hS
      rintro v' m _ ⟨S', rfl⟩ hS
      simp only [zC, zN] at hS
      obtain ⟨A2, c2, rfl, _⟩ := hS.shape
      refine ⟨_, rfl, ?_⟩
      refine go ?_
      refine RL.storeM T_ok hS rfl rfl rfl rfl (by rfl) (by rfl) (by with_reducible repeat (first | exact Rep.head | apply Rep.tail)) (by rfl) ?_; (try clear hS); intro m hS
      refine go ?_
      refine RL.storeM T_ok hS rfl rfl rfl rfl (by rfl) (by rfl) (by with_reducible repeat (first | exact Rep.head | apply Rep.tail)) (by rfl) ?_; (try clear hS); intro m hS
      refine go ?_
      have eR : (Rw.mk S' (.slice A2 (ord.xs.length + 1) c2) (insAt (q.pl x) b ord.xs)).A = ownA S' 176 1 (.slice A2 (ord.xs.length + 1) c2) (ord.xs.length + 1) ((ord.xs.map pA).take (q.pl x * 1) ++ [pA b] ++ (ord.xs.map pA).drop (q.pl x * 1)) := by simp only [Rw.A, insAt_length, insAt_map]; simp [insAt]
      have hk := k.one ht hm few g md (ord1 := Rw.mk S' (.slice A2 (ord.xs.length + 1) c2) (insAt (q.pl x) b ord.xs)) rfl (Rw.mk [] (.slice none 0 0) []) rfl
      have hall : (q.one x b).allE = mset q.allE x.id (pA b) := by
        rw [mset_new]
        · simp [Sq.allE, Sq.one, Us.put, List.zip_append k.adl.symm]
        · intro hh
          simp only [Sq.allE, List.map_map] at hh
          obtain ⟨z, hz, e⟩ := List.mem_map.1 hh
          exact Us.idx_none.1 hid (List.mem_map.2 ⟨z.1, (List.of_mem_zip hz).1, e⟩)
      have hS : Tr m0 (ofps [seqA S s q]) X m ((blkA s 175 [.map (some ra), .slice A2 (ord.xs.length + 1) c2, ro1.v, .map (some rt), .bool false] :: mapA ra iV (q.one x b).allE :: mapA rt iV at_ :: (Rw.mk S' (.slice A2 (ord.xs.length + 1) c2) (insAt (q.pl x) b ord.xs)).A :: ro1.A :: (ndL (bump N1 up 1) ++ [blkA b 178 (nC x (pa.map q.a) (.slice none 0 0) (.slice none 0 0) 1)])) ++ [blkA b3 101 (uC x)]) := by
        rw [hall, eR]
        have h1 := hS.perm (List.perm_middle (l₁ := [_, _, _])).symm
        simp only [zC, zN, List.append_assoc] at h1 ⊢
        exact h1
      have hS := ((hS.drop.empty 176 1 none).empty 176 1 none).perm (List.perm_append_comm (l₁ := [_, _]))
      have e2 : (ndL (bump N1 up 1) ++ [blkA b 178 (nC x (pa.map q.a) (.slice none 0 0) (.slice none 0 0) 1)]) ++ [(Rw.mk [] (.slice none 0 0) []).A, (Rw.mk [] (.slice none 0 0) []).A] = ndL (bump N1 up 1 ++ [⟨b, x, pa.map q.a, 1, Rw.mk [] (.slice none 0 0) [], Rw.mk [] (.slice none 0 0) []⟩]) ++ [] := by
        simp [ndL, Nd.A]
      have hS : Tr m0 (ofps [seqA S s q]) X m (sqH (q.one x b) s ra rt false at_ (Rw.mk S' (.slice A2 (ord.xs.length + 1) c2) (insAt (q.pl x) b ord.xs)) ro1 (bump N1 up 1 ++ [⟨b, x, pa.map q.a, 1, Rw.mk [] (.slice none 0 0) [], Rw.mk [] (.slice none 0 0) []⟩]) []) := by
        unfold sqH
        rw [← e2]; exact hS
      obtain ⟨S9, hS⟩ := seq_close hk hS
      exact QN.end0 rfl ⟨_, rfl, _, ⟨S9, b, rfl⟩, hS⟩
  · obtain ⟨pa, sd, kk, up, g, g0, g3, g1, g2⟩ := hq.grown x
    have fin : ∀ {m : World} {ra rt : Nat} {fr : Bool} {at_ : List (Idn × Value)} {ord ro ro1 : Rw} {N N1 : List Nd}, SOk q fr at_ ord ro N → Mid b pa sd kk N N1 ro ro1 → Tr m0 (ofps [seqA S s q]) X m (sqH q s ra rt fr at_ ord ro1 N1 [blkA b 178 (nC x (pa.map q.a) (.slice none 0 0) (.slice none 0 0) 1)] ++ [blkA b3 101 (uC x)]) → putI m0 (ofps [seqA S s q]) X s b b3 q x m :=
      fun {_ _ _ _ _ _ _ _ _ _} k md hS => ⟨pa, sd, kk, up, _, _, _, _, _, _, _, _, _, g, g0, g3, k, md, by simpa only [List.cons_append, List.append_assoc, List.nil_append] using hS⟩
    cases hr : q.idx x.r with
    | none =>
      have hlf : q.lefty x = none := by simp [Us.lefty, hr]
      obtain ⟨rfl, rfl, h5, h6⟩ := g2 hlf
      refine go ?_
      cases hl : q.idx x.l with
      | none =>
        obtain ⟨rfl, rfl⟩ := h6 hl
        rw [hl] at fin
        refine RL.callM (fi := []) (ca := []) hS (rightR_s S2 s b q x ht hq few) rfl rfl rfl rfl (by repeat (first | with_reducible exact Sels.nil | apply Sels.ro (by with_reducible repeat (first | exact zS .. | apply zO)) (by rfl) | apply Sels.own (by with_reducible repeat (first | exact Sel.head | apply Sel.tail)))) ?_
        clear hS
        rintro _ m _ ⟨rfl, ra, rt, fr, at_, ord, ro, N, R, k, hR, rfl⟩ hS
        refine ⟨_, rfl, ?_⟩
        refine RL.autoP T_ok rfl rfl ?_
        refine RL.N1 ?_
        exact tl () _ _ (Sub.C1 rfl (Sub.C1 rfl (Sub.C1 rfl (Sub.C1 (by simp only [Us.pl, hlf, hl]; rw [Nat.zero_add]; rfl) Sub.nil)))) (fin k (.root hR) hS)
      | some l =>
        obtain ⟨rfl, rfl⟩ := h5 _ hl
        rw [hl] at fin
        have hll := (Us.idx_some hl).1
        obtain ⟨pp, ss, fa, fb, hA⟩ := Fo.At.of_mem none false ((hq.mem l).2 hll)
        have hsb := At.subs hA hq.nd
        rw [hsb] at fin
        refine RL.callM (fi := []) (ca := []) hS (rightL_s S2 s b q x l hll ht hq few hA) rfl rfl rfl rfl (by repeat (first | with_reducible exact Sels.nil | apply Sels.ro (by with_reducible repeat (first | exact zS .. | apply zO)) (by rfl) | apply Sels.own (by with_reducible repeat (first | exact Sel.head | apply Sel.tail)))) ?_
        clear hS
        rintro _ m _ ⟨rfl, ra, rt, fr, at_, ord, ro, N, d, R, k, d1, hR, rfl⟩ hS
        refine ⟨_, rfl, ?_⟩
        refine RL.autoP T_ok rfl rfl ?_
        refine RL.N1 ?_
        exact tl () _ _ (Sub.C1 rfl (Sub.C1 rfl (Sub.C1 rfl (Sub.C1 (by simp only [Us.pl, hlf, hl, hsb]; rfl) Sub.nil)))) (fin k (.right d1 hR) hS)
    | some r =>
      have hrl := (Us.idx_some hr).1
      obtain ⟨pp, ss, fa, fb, hA⟩ := Fo.At.of_mem none false ((hq.mem r).2 hrl)
      have hsb := At.subs hA hq.nd
      cases hl : q.idx x.l with
      | none =>
        have hlf : q.lefty x = some r := by simp [Us.lefty, hr, hl]
        obtain ⟨rfl, rfl, rfl, rfl⟩ := g1 r hlf
        rw [hsb] at fin
        refine go ?_
        refine RL.callM (fi := []) (ca := []) hS (leftOf_s S2 s b q x r hrl ht hid hA) rfl rfl rfl rfl (by repeat (first | with_reducible exact Sels.nil | apply Sels.ro (by with_reducible repeat (first | exact zS .. | apply zO)) (by rfl) | apply Sels.own (by with_reducible repeat (first | exact Sel.head | apply Sel.tail)))) ?_
        clear hS
        rintro _ m _ ⟨rfl, ra, rt, fr, at_, ord, ro, N, d, R, k, d1, hR, rfl⟩ hS
        refine ⟨_, rfl, ?_⟩
        refine RL.autoP T_ok rfl rfl ?_
        refine RL.N1 ?_
        exact tl () _ _ (Sub.C1 rfl (Sub.C1 rfl (Sub.C1 rfl (Sub.C1 (by simp only [Us.pl, hlf, hsb]; rfl) Sub.nil)))) (fin k (.left d1 hR) hS)
      | some l =>
        have hll := (Us.idx_some hl).1
        refine go ?_
        refine RL.callM (fi := []) (ca := []) hS (under_s S2 s q r l hrl hll ht) rfl rfl rfl rfl (by repeat (first | with_reducible exact Sels.nil | apply Sels.ro (by with_reducible repeat (first | exact zS .. | apply zO)) (by rfl) | apply Sels.own (by with_reducible repeat (first | exact Sel.head | apply Sel.tail)))) ?_
        clear hS
        rintro _ m _ ⟨rfl, S3, rfl⟩ hS
        simp only [zC, zN] at hS
        refine ⟨_, rfl, ?_⟩
        by_cases hun : l ∈ (Fo.path [] q.F r).tail
        · rw [decide_eq_true hun]
          have hlf : q.lefty x = some r := by simp [Us.lefty, hr, hl, hun]
          obtain ⟨rfl, rfl, rfl, rfl⟩ := g1 r hlf
          rw [hsb] at fin
          refine go ?_
          refine RL.callM (fi := []) (ca := []) hS (leftOf_s S3 s b q x r hrl ht hid hA) rfl rfl rfl rfl (by repeat (first | with_reducible exact Sels.nil | apply Sels.ro (by with_reducible repeat (first | exact zS .. | apply zO)) (by rfl) | apply Sels.own (by with_reducible repeat (first | exact Sel.head | apply Sel.tail)))) ?_
          clear hS
          rintro _ m _ ⟨rfl, ra, rt, fr, at_, ord, ro, N, d, R, k, d1, hR, rfl⟩ hS
          refine ⟨_, rfl, ?_⟩
          refine RL.autoP T_ok rfl rfl ?_
          refine RL.N1 ?_
          exact tl () _ _ (Sub.C1 rfl (Sub.C1 rfl (Sub.C1 rfl (Sub.C1 (by simp only [Us.pl, hlf, hsb]; rfl) Sub.nil)))) (fin k (.left d1 hR) hS)
        · rw [decide_eq_false hun]
          have hlf : q.lefty x = none := by simp [Us.lefty, hr, hl, hun]
          obtain ⟨rfl, rfl, h5, h6⟩ := g2 hlf
          refine go ?_
          clear hA hsb
          obtain ⟨rfl, rfl⟩ := h5 _ hl
          rw [hl] at fin
          have hll := (Us.idx_some hl).1
          obtain ⟨pp, ss, fa, fb, hA⟩ := Fo.At.of_mem none false ((hq.mem l).2 hll)
          have hsb := At.subs hA hq.nd
          rw [hsb] at fin
          refine RL.callM (fi := []) (ca := []) hS (rightL_s S3 s b q x l hll ht hq few hA) rfl rfl rfl rfl (by repeat (first | with_reducible exact Sels.nil | apply Sels.ro (by with_reducible repeat (first | exact zS .. | apply zO)) (by rfl) | apply Sels.own (by with_reducible repeat (first | exact Sel.head | apply Sel.tail)))) ?_
          clear hS
          rintro _ m _ ⟨rfl, ra, rt, fr, at_, ord, ro, N, d, R, k, d1, hR, rfl⟩ hS
          refine ⟨_, rfl, ?_⟩
          refine RL.autoP T_ok rfl rfl ?_
          refine RL.N1 ?_
          exact tl () _ _ (Sub.C1 rfl (Sub.C1 rfl (Sub.C1 rfl (Sub.C1 (by simp only [Us.pl, hlf, hl, hsb]; rfl) Sub.nil)))) (fin k (.right d1 hR) hS)
end Go.Proofs.YtgpgladbdoimdaaGreatDoor
end
section
namespace Go.Proofs.YtgpgladbdoimdaaGreatDoor
open Go.RowKit Go.Ev Go.Ids Go.SeqP
def Sq.more (q : Sq) (y : Un) (bs : List Nat) : Sq := ⟨q.puts y bs.length, q.ad ++ bs, true⟩
theorem Sq.more_a {q : Sq} {y : Un} {bs : List Nat} {i : Nat} (hl : q.ad.length = q.us.length) (h : i < q.us.length) : (q.more y bs).a i = q.a i := by
  simp [Sq.a, Sq.more, List.getD_eq_getElem?_getD, List.getElem?_append_left (show i < q.ad.length by omega)]
theorem Sq.more_new {q : Sq} {y : Un} {bs : List Nat} {t : Nat} (hl : q.ad.length = q.us.length) : (q.more y bs).a (q.us.length + t) = bs.getD t 0 := by
  simp only [Sq.a, Sq.more, List.getD_eq_getElem?_getD, ← hl]
  rw [List.getElem?_append_right (by omega), Nat.add_sub_cancel_left]
theorem Sq.more_map {q : Sq} {y : Un} {bs : List Nat} (hl : q.ad.length = q.us.length) {l : List Nat} (h : ∀ i ∈ l, i < q.us.length) : l.map (q.more y bs).a = l.map q.a := List.map_congr_left fun i hi => Sq.more_a hl (h i hi)
theorem Sq.more_range {q : Sq} {y : Un} {bs : List Nat} (hl : q.ad.length = q.us.length) : ((List.range bs.length).map (q.us.length + ·)).map (q.more y bs).a = bs := by
  refine List.ext_getElem? fun i => ?_
  simp only [List.map_map, List.getElem?_map, Function.comp_def]
  by_cases h : i < bs.length
  · simp [List.getElem?_range h, Sq.more_new hl, List.getD_eq_getElem?_getD, List.getElem?_eq_getElem h]
  · simp [List.getElem?_eq_none (show bs.length ≤ i by omega), List.getElem?_eq_none (show (List.range bs.length).length ≤ i by simp; omega)]
structure Chn (q : Sq) (l : Nat) (y : Un) (more : Nat) (bs : List Nat) (Nb M : List Nd) : Prop where
  old : ∀ {i : Nat} {d : Nd}, Nb[i]? = some d → ∃ R, M[i]? = some { d with rr := R } ∧ R.xs = (if i = l ∧ bs ≠ [] then [bs.getD 0 0] else d.rr.xs)
  new : ∀ t, t < bs.length → ∃ rl rr, M[Nb.length + t]? = some ⟨bs.getD t 0, Us.nx y t, some (if t = 0 then q.a l else bs.getD (t - 1) 0), more - t, rl, rr⟩ ∧ rl.xs = [] ∧ rr.xs = (if t + 1 < bs.length then [bs.getD (t + 1) 0] else [])
  len : M.length = Nb.length + bs.length
theorem Chn.start {q : Sq} {l : Nat} {y : Un} {more : Nat} {Nb : List Nd} : Chn q l y more [] Nb Nb := ⟨fun {i d} h => ⟨d.rr, h, by simp⟩, fun t h => by simp at h, by simp⟩
theorem Chn.step {q : Sq} {l : Nat} {y : Un} {more b z : Nat} {bs : List Nat} {Nb M : List Nd} {d : Nd} {R rn rn' : Rw} (h : Chn q l y more bs Nb M) (hll : l < Nb.length) (hz : z = if bs = [] then l else Nb.length + bs.length - 1) (hd : M[z]? = some d) (hda : d.a = if bs = [] then q.a l else bs.getD (bs.length - 1) 0) (hR : R.xs = [b]) (h1 : rn.xs = []) (h2 : rn'.xs = []) :
    Chn q l y more (bs ++ [b]) Nb (M.set z { d with rr := R } ++ [⟨b, Us.nx y bs.length, some d.a, more - bs.length, rn, rn'⟩]) where
  len := by simp [h.len]; omega
  old := fun {i e} hi => by
    have hil := (List.getElem?_eq_some_iff.1 hi).1
    obtain ⟨R0, g1, g2⟩ := h.old hi
    have hlt : i < (M.set z { d with rr := R }).length := by rw [List.length_set, h.len]; omega
    rw [List.getElem?_append_left hlt, List.getElem?_set]
    by_cases hzi : z = i
    · subst hzi
      have hb : bs = [] := by
        cases bs with
        | nil => rfl
        | cons a bs => simp at hz; omega
      subst hb
      simp only [if_true] at hz
      rw [hd] at g1
      cases g1
      refine ⟨R, by rw [if_pos rfl, if_pos (List.getElem?_eq_some_iff.1 hd).1], ?_⟩
      rw [hR, if_pos ⟨hz, by simp⟩]; rfl
    · rw [if_neg hzi]
      refine ⟨R0, g1, ?_⟩
      rw [g2]
      by_cases hil : i = l
      · have hb : bs ≠ [] := fun hh => by rw [if_pos hh] at hz; omega
        rw [if_pos ⟨hil, hb⟩, if_pos ⟨hil, by simp⟩]
        cases bs with
        | nil => exact absurd rfl hb
        | cons a bs => rfl
      · rw [if_neg (fun hh => hil hh.1), if_neg (fun hh => hil hh.1)]
  new := fun t ht => by
    rw [List.length_append, List.length_singleton] at ht
    have hgl : ∀ j, j < bs.length → (bs ++ [b]).getD j 0 = bs.getD j 0 := fun j hj => by simp [List.getD_eq_getElem?_getD, List.getElem?_append_left hj]
    have hgb : (bs ++ [b]).getD bs.length 0 = b := by simp [List.getD_eq_getElem?_getD]
    rcases Nat.lt_or_ge t bs.length with htl | htl
    · obtain ⟨rl, rr, g1, g2, g3⟩ := h.new t htl
      have hlt : Nb.length + t < (M.set z { d with rr := R }).length := by rw [List.length_set, h.len]; omega
      have hbne : bs ≠ [] := fun hh => by subst hh; simp at htl
      rw [if_neg hbne] at hz
      rw [List.getElem?_append_left hlt, List.getElem?_set, hgl t htl]
      have hprev : (if t = 0 then q.a l else (bs ++ [b]).getD (t - 1) 0) = (if t = 0 then q.a l else bs.getD (t - 1) 0) := by
        split
        · rfl
        · rw [hgl _ (by omega)]
      rw [hprev]
      by_cases hzt : z = Nb.length + t
      · rw [if_pos hzt, if_pos (by rw [hzt, h.len]; omega)]
        rw [hzt, g1] at hd
        cases hd
        refine ⟨rl, R, rfl, g2, ?_⟩
        rw [hR, if_pos (by simp; omega), show t + 1 = bs.length by omega, hgb]
      · rw [if_neg hzt]
        refine ⟨rl, rr, g1, g2, ?_⟩
        rw [g3, if_pos (by omega), if_pos (by simp; omega), hgl _ (by omega)]
    · have : t = bs.length := by omega
      subst this
      refine ⟨rn, rn', ?_, h1, by rw [h2, if_neg (by simp)]⟩
      rw [List.getElem?_append_right (by rw [List.length_set, h.len]; omega), List.length_set, h.len, Nat.sub_self, hgb, hda]
      simp only [List.getElem?_cons_zero]
      congr 2
      cases bs with
      | nil => rfl
      | cons a bs =>
        rw [if_neg (by simp), if_neg (by simp), hgl _ (by simp)]
theorem SOk.chain {q : Sq} {fr : Bool} {at_ : List (Idn × Value)} {ord ro ord1 : Rw} {N M : List Nd} {y : Un} {bs : List Nat} {l : Nat} {p : Option Nat} {s : Bool} (h : SOk q fr at_ ord ro N) (ht : q.tr = true) (few : q.us.length + bs.length ≤ 1000000) (hr : q.Runs y bs.length) (hl : q.idx y.l = some l) (hA : Fo.At q.F none false l p s .nil .nil) (hrr : q.idx y.r ≠ some l)
    (c : Chn q l y bs.length bs (bump N (Fo.path [] q.F l) bs.length) M) (ho : ord1.xs = ord.xs.take (q.place l + 1) ++ (bs ++ ord.xs.drop (q.place l + 1))) : SOk (q.more y bs) false at_ ord1 ro M := by
  have had := h.adl
  have hlt : ∀ i ∈ q.F.flat, i < q.us.length := fun i hi => (h.ok.mem i).1 hi
  have hNl : N.length = q.us.length := by rw [← h.l.us, List.length_map]
  have hlf := h.ok.leaf_lefty hA hl hrr
  have hpos := hr.pos
  obtain ⟨n, hn⟩ : ∃ n, bs.length = n + 1 := ⟨bs.length - 1, by omega⟩
  have hbne : bs ≠ [] := fun hh => by rw [hh] at hn; simp at hn
  obtain ⟨pa, sd, k, up, g, _, _, _, g2, G⟩ := h.ok.grownN hr
  obtain ⟨rfl, e2, e3, _⟩ := g2 hlf
  obtain ⟨rfl, rfl⟩ := e3 _ hl
  rw [hl] at e2
  subst e2
  have hsub := At.subs hA h.ok.nd
  have hpl : q.pl y = q.place l + 1 := by simp [Us.pl, hlf, hl, hsub, Us.kR, Fo.roots, Fo.pre]
  obtain ⟨G, _⟩ := G n (by omega)
  rw [← hn, hpl, hsub] at G
  have hk0 : q.kR (Fo.nil).roots y = 0 := by simp [Us.kR, Fo.roots]
  simp only [hk0] at G
  have hok := Us.puts_ok h.ok hr bs.length (Nat.le_refl _)
  have hbl : (bump N (Fo.path [] q.F l) bs.length).length = q.us.length := by rw [bump_len, hNl]
  have hMl : M.length = q.us.length + bs.length := by rw [c.len, hbl]
  have old : ∀ {i : Nat}, i < q.us.length → ∃ d R, N[i]? = some d ∧ M[i]? = some { (if i ∈ Fo.path [] q.F l then { d with sz := d.sz + bs.length } else d) with rr := R } ∧ R.xs = (if i = l then [bs.getD 0 0] else d.rr.xs) := fun {i} hi => by
    obtain ⟨d, d1, _⟩ := h.l.get hi
    obtain ⟨R, r1, r2⟩ := c.old (i := i) (by rw [bump_get, d1]; rfl)
    refine ⟨d, R, d1, r1, r2.trans ?_⟩
    have : (if i ∈ Fo.path [] q.F l then { d with sz := d.sz + bs.length } else d).rr = d.rr := by split <;> rfl
    rw [this]
    simp [hbne]
  refine ⟨?_, fun _ => ?_, ⟨?_, ?_, fun _ i p s a' b' hA' => ?_⟩, hok, ?_, fun hh => by cases hh⟩
  · rw [ho, h.o]
    show _ = (q.puts y bs.length).F.flat.map _
    rw [G.flat, List.map_append, List.map_append, Sq.more_range had, Sq.more_map had (fun i hi => hlt i (List.mem_of_mem_take hi)), Sq.more_map had (fun i hi => hlt i (List.mem_of_mem_drop hi)), List.map_take, List.map_drop]
  · rw [h.r ht]
    show _ = (q.puts y bs.length).F.roots.map _
    rw [G.roots, if_neg (by simp), Sq.more_map had fun i hi => hlt i (Fo.roots_sub _ i hi)]
  · refine List.ext_getElem? fun i => ?_
    rw [List.getElem?_map]
    show _ = (q.ad ++ bs)[i]?
    rcases Nat.lt_or_ge i q.us.length with hi | hi
    · obtain ⟨d, R, d1, d2, _⟩ := old hi
      rw [d2, List.getElem?_append_left (by omega), ← h.l.ad, List.getElem?_map, d1]
      simp only [Option.map_some]
      split <;> rfl
    · rw [List.getElem?_append_right (by omega)]
      obtain ⟨t, rfl⟩ : ∃ t, i = q.us.length + t := ⟨i - q.us.length, by omega⟩
      rw [show q.us.length + t - q.ad.length = t by omega]
      rcases Nat.lt_or_ge t bs.length with htl | htl
      · obtain ⟨rl, rr, n1, _⟩ := c.new t htl
        rw [hbl] at n1
        rw [n1]
        simp [List.getD_eq_getElem?_getD, List.getElem?_eq_getElem htl]
      · rw [List.getElem?_eq_none (by omega), List.getElem?_eq_none (by omega)]; rfl
  · refine List.ext_getElem? fun i => ?_
    rw [List.getElem?_map]
    show _ = (q.puts y bs.length).us[i]?
    rw [Us.puts_us]
    rcases Nat.lt_or_ge i q.us.length with hi | hi
    · obtain ⟨d, R, d1, d2, _⟩ := old hi
      rw [d2, List.getElem?_append_left (by omega), ← h.l.us, List.getElem?_map, d1]
      simp only [Option.map_some]
      split <;> rfl
    · rw [List.getElem?_append_right (by omega)]
      obtain ⟨t, rfl⟩ : ∃ t, i = q.us.length + t := ⟨i - q.us.length, by omega⟩
      rw [Nat.add_sub_cancel_left]
      rcases Nat.lt_or_ge t bs.length with htl | htl
      · obtain ⟨rl, rr, n1, _⟩ := c.new t htl
        rw [hbl] at n1
        rw [n1]
        simp [htl]
      · rw [List.getElem?_eq_none (by omega), List.getElem?_eq_none (by simp; omega)]; rfl
  · rcases G.old hA' with ⟨j, hj, rfl, hp, rfl, hb, hs⟩ | ⟨hi, a, b, h1, h2, h3, h4⟩
    · obtain ⟨rl, rr, n1, n2, n3⟩ := c.new j hj
      rw [hbl] at n1
      refine ⟨_, n1, ?_, ?_, by rw [n2]; rfl, ?_⟩
      · subst hp
        simp only
        split
        · simp [Sq.more_a had (hlt l hA.mem.1)]
        · rename_i hj0
          rw [show q.us.length + j - 1 = q.us.length + (j - 1) by omega, Option.map_some, Sq.more_new had]
      · have : (Fo.nil).sz = 0 := rfl
        simp only [this]; omega
      · rw [n3, hb]
        split
        · rw [List.map_singleton, show q.us.length + j + 1 = q.us.length + (j + 1) by omega, Sq.more_new had]
        · rfl
    · obtain ⟨d, R, d1, d2, d3⟩ := old hi
      obtain ⟨d', e1, _, _, _, e5, e6, e7, e8⟩ := h.node ht hi h1
      rw [d1] at e1
      cases e1
      refine ⟨_, d2, ?_, ?_, ?_, ?_⟩
      · have : (if i ∈ Fo.path [] q.F l then { d with sz := d.sz + bs.length } else d).p = d.p := by split <;> rfl
        refine Eq.trans this ?_
        rw [e5]
        cases p with
        | none => rfl
        | some t =>
          obtain ⟨t', _, hq, h10⟩ := h1.path (up := []) h.ok.nd (by simp)
          rcases h10 with rfl | ⟨q', e, _, hm'⟩
          · cases hq
          · cases e; simp [Sq.more_a had (hlt t hm')]
      · simp only
        split
        · rename_i hup
          rw [if_pos hup] at h4
          simp only [e6]; omega
        · rename_i hup
          rw [if_neg hup] at h4
          rw [e6]; omega
      · have : (if i ∈ Fo.path [] q.F l then { d with sz := d.sz + bs.length } else d).rl = d.rl := by split <;> rfl
        simp only [this, e7, h2]
        rw [if_neg (by simp), Sq.more_map had fun y hy => hlt y (h1.mem.2.1 y (Fo.roots_sub _ y hy))]
      · show R.xs = _
        rw [d3, h3]
        by_cases hil : i = l
        · subst hil
          obtain ⟨_, _, rfl, rfl⟩ := h1.uniq hA h.ok.nd
          rw [if_pos rfl, if_pos ⟨rfl, rfl⟩]
          have := Sq.more_new (q := q) (y := y) (bs := bs) (t := 0) had
          simp only [insAt, Fo.roots, List.take_nil, List.drop_nil, List.nil_append, List.map_singleton]
          rw [← this]; rfl
        · rw [if_neg hil, if_neg (by simp [Ne.symm hil]), e8, Sq.more_map had fun y hy => hlt y (h1.mem.2.2 y (Fo.roots_sub _ y hy))]
  · show (q.puts y bs.length).us.length ≤ _
    rw [Us.puts_len]; exact few
end Go.Proofs.YtgpgladbdoimdaaGreatDoor
end
