/- Texts that belong together. -/
import Derived.Test.YtgpgladbdoimdaaGreatDoorMAncV10
section
namespace Go.Proofs.YtgpgladbdoimdaaGreatDoor
open Go.ChangeShapes Go.WideShapes Go.ChangeAt Go.RowKit Go.Ev Go.Ids Go.SeqP
set_option maxRecDepth 20000
set_option maxHeartbeats 1000000
theorem bs0_s (A : Option Addr) (c : Nat) (id : Idn) (k : FuncId) : DoS Tryz.prog 182 [.slice A 0 c, iV id, .func (.func k) #[] #[]] [] (fun r H => r = .tuple #[.int .i64 0, .bool false] ∧ H = []) := by
  intro m0 X hS
  refine FnE.enter ⟨_, Tryz.func182, by kernel_rfl, by kernel_rfl⟩ Tryz.func182 rfl rfl ?_
  refine goS ?_
  refine RL.boxS hS rfl rfl rfl ?_; (try clear hS); intro b4 m hS; refine ⟨_, rfl, ?_⟩
  refine goS ?_
  refine (WP.loop (X := Unit) (fun _ => [(0, .slice A 0 c), (2, .func (.func k) #[] #[]), (4, pA b4), (8, .int .i64 0), (9, .int .i64 0), (10, .int .i64 0)]) (fun _ m' => Tr m0 (ofps []) X m' [blkA b4 30 (iC id)]) (fun _ => 0) () (Sub.C1 rfl (Sub.C1 rfl (Sub.C1 rfl (Sub.C1 rfl (Sub.C1 rfl (Sub.C1 rfl Sub.nil)))))) hS ?_)
  clear hS
  rintro _ m hS
  refine goS ?_
  refine WP.exit ?_
  (with_reducible repeat (first | refine QN.tx ?_ | refine QN.bx ?_ | refine QN.B1 ?_ | refine QN.N1 ?_))
  refine go ?_
  exact QN.ret2 rfl rfl rfl ⟨_, rfl, _, ⟨rfl, rfl⟩, hS.tail⟩
structure GoV (d : Nat) (D : List Rng) (H : List Asn) (c0 c1 c2 vd : Value) (cs : List Value) (S3 : List Nat) : Prop where
  d : blkA d 147 (c0 :: c1 :: c2 :: vd :: cs) ∈ H
  h : rngA S3 vd D ∈ H
theorem gone0_s (d : Nat) (L : List Asn) (c0 c1 c2 vd : Value) (cs : List Value) (S3 : List Nat) (id : Idn) (hV : GoV d [] L c0 c1 c2 vd cs S3) :
    DoS Tryz.prog 132 [pA d, iV id] L (fun r H => r = .bool (hasB [] id) ∧ H = L) := by
  intro m0 X hS
  obtain ⟨M0, hM0⟩ : ∃ M0, M0 = ofps L := ⟨_, rfl⟩
  rw [← hM0] at hS ⊢
  obtain ⟨A, c, hvd, _⟩ := Ev.Own.shape (show Ev.Own m0 S3 167 3 vd [].length (List.flatMap rC []) from hS.mem hV.h)
  have hN := hV.d
  have hb : hasB [] id = false := by simp [hasB]
  rw [hb]
  refine FnE.enter ⟨_, Tryz.func132, by kernel_rfl, by kernel_rfl⟩ Tryz.func132 rfl rfl ?_
  refine goS ?_
  refine RL.boxS hS rfl rfl rfl ?_; (try clear hS); intro b3 m hS; refine ⟨_, rfl, ?_⟩
  refine go ?_
  rw [hvd]
  refine RH.callS (fi := []) (ca := []) hS (bs0_s A c id 183) rfl (by kernel_rfl) rfl rfl rfl rfl rfl .nil ?_
  clear hS
  rintro _ m _ ⟨rfl, rfl⟩ hS
  simp only [List.nil_append] at hS
  refine ⟨by simp only [List.nil_append]; exact AllIn.self _, _, rfl, ?_⟩
  refine go ?_
  rw [hvd]
  refine go ?_
  exact QN.ret1 rfl rfl ⟨_, rfl, _, ⟨rfl, rfl⟩, hS.tail⟩
theorem seen_s (d : Nat) : DoS Tryz.prog 72 [pA d] [] (fun v H => ∃ b1, v = .func (.func 131) #[] #[pA b1] ∧ H = [blkA b1 24 [pA d]]) := by
  intro m0 X hS
  refine FnE.enter ⟨_, Tryz.func72, by kernel_rfl, by kernel_rfl⟩ Tryz.func72 rfl rfl ?_
  refine goS ?_
  refine RL.boxS hS rfl rfl rfl ?_; (try clear hS); intro b1 m hS; refine ⟨_, rfl, ?_⟩
  refine goS ?_
  exact QN.ret1 rfl rfl ⟨_, rfl, _, ⟨b1, rfl, rfl⟩, hS⟩
def allL (us : List Un) : List (Nat × Un) := us.zipIdx.map fun x => (x.2, x.1)
theorem allL_get (us : List Un) (k : Nat) : (allL us)[k]? = (us[k]?).map fun u => (k, u) := by
  simp only [allL, List.getElem?_map, List.getElem?_zipIdx, Nat.zero_add]
  cases us[k]? <;> rfl
def seenL (D : List Rng) (us : List Un) : List (Nat × Un) := (allL us).filter fun x => !hasB D x.2.id
theorem seen_at {D : List Rng} {us : List Un} {x : Nat × Un} {n : Nat} (h : (allL us)[n]? = some x) (hx : hasB D x.2.id = false) : (seenL D us)[(((allL us).take n).filter fun x => !hasB D x.2.id).length]? = some x := by
  have e : allL us = (allL us).take n ++ x :: (allL us).drop (n + 1) := by
    obtain ⟨hlt, hg⟩ := List.getElem?_eq_some_iff.1 h
    conv => lhs; rw [← List.take_append_drop n (allL us), List.drop_eq_getElem_cons hlt, hg]
  unfold seenL
  generalize hT : (allL us).take n = T at e ⊢
  rw [e, List.filter_append, List.filter_cons]
  simp [hx]
structure SeV (d b1 : Nat) (D : List Rng) (q : Sq) (H : List Asn) (c0 c1 c2 vd c4 c5 : Value) (s : Nat) (cs : List Value) (S3 : List Nat) (e0 e2 e3 e4 : Value) (ord : Rw) : Prop where
  b : blkA b1 24 [pA d] ∈ H
  g : GoV d D H c0 c1 c2 vd (c4 :: c5 :: pA s :: cs) S3
  s : blkA s 175 [e0, ord.v, e2, e3, e4] ∈ H
  o : ord.A ∈ H
  ox : ord.xs = q.F.flat.map q.a
  n : ∀ i ∈ q.F.flat, ∃ p lv rv sz, blkA (q.a i) 178 (nC (q.u i) p lv rv sz) ∈ H
theorem seen1_t (d b1 : Nat) (D : List Rng) (q : Sq) (c0 c1 c2 vd c4 c5 : Value) (s : Nat) (cs : List Value) (S3 : List Nat) (e0 e2 e3 e4 : Value) (ord : Rw) (hb : q.F.flat.length ≤ 1000000)
    (hg : ∀ (L : List Asn) (id : Idn), GoV d D L c0 c1 c2 vd (c4 :: c5 :: pA s :: cs) S3 → DoS Tryz.prog 132 [pA d, iV id] L (fun r H => r = .bool (hasB D id) ∧ H = L)) :
    ItT Tryz.prog 131 [pA b1] (fun x : Nat × Un => [.int .i64 x.1, uV x.2]) (fun pre x => (seenL D q.units)[pre.length]? = some x) (fun xs => xs.length = (seenL D q.units).length) (fun _ H => SeV d b1 D q H c0 c1 c2 vd c4 c5 s cs S3 e0 e2 e3 e4 ord) := by
  intro l I Ix m0 m M0 X H h0 hS hneed hy
  have hV := hneed [] H h0
  refine FnE.enterM ⟨_, Tryz.func131, by kernel_rfl, by kernel_rfl⟩ Tryz.func131 rfl rfl ?_
  have hN := hV.b
  have hN' := hV.g.d
  refine goS ?_
  refine RL.boxS hS rfl rfl rfl ?_; (try clear hS); intro b2 m hS; refine ⟨_, rfl, ?_⟩
  refine goS ?_
  refine RL.callM (fi := []) (ca := []) hS (all_s s) rfl rfl rfl rfl .nil ?_
  clear hS
  rintro _ m _ ⟨bx, rfl, rfl⟩ hS
  simp only [zC, zN] at hS
  refine ⟨_, rfl, ?_⟩
  refine goS ?_
  refine WP.rangeT (β := Nat) (fun x : Nat × Un => [.int .i64 x.1, uV x.2]) rfl (all1_t q bx s e0 e2 e3 e4 ord hb) ⟨_, Tryz.func90, by kernel_rfl, by kernel_rfl⟩ hS
    (fun pre H => pre = (allL q.units).take pre.length ∧ ∃ H1, H = blkA bx 105 [pA s] :: blkA b2 170 [.func (.yield l) #[] #[]] :: H1 ∧ I (pre.filter fun x => !hasB D x.2.id) H1)
    (fun c _ H => c = .ret ∧ ∃ pre H1, H = blkA bx 105 [pA s] :: blkA b2 170 [.func (.yield l) #[] #[]] :: H1 ∧ Ix pre H1) ⟨rfl, H, rfl, h0⟩ ?_ _ (fun _ => rfl) (fun _ => rfl)
    (fun x b => [(1, pA b1), (2, pA b2), (3, .int .i64 x.1), (4, pA b)]) (fun x b G => G = [blkA b 101 (uC x.2)]) ?_ ?_ ?_ ?_
  · rintro pre H C ⟨_, H1, rfl, hI⟩
    have hV := hneed _ H1 hI
    have up : ∀ {A : Asn}, A ∈ H1 → A ∈ C :: blkA bx 105 [pA s] :: blkA b2 170 [.func (.yield l) #[] #[]] :: H1 := fun h => zO _ (zO _ (zO _ h))
    exact ⟨by simp, up hV.s, up hV.o, hV.ox, fun i hi => by
      obtain ⟨p, lv, rv, sz, h⟩ := hV.n i hi
      exact ⟨p, lv, rv, sz, up h⟩⟩
  · intro l C pre x G m1 H1 _ _ hS
    refine goS ?_
    refine RL.allocS T_ok rfl hS rfl rfl ?_; (try clear hS); intro b m hS; refine ⟨_, rfl, ?_⟩
    refine goS ?_
    refine RL.ssM T_ok hS rfl rfl rfl rfl rfl (by rfl) (by rfl) (by with_reducible repeat (first | exact Rep.head | apply Rep.tail)) (by rfl) ?_; (try clear hS); intro m hS
    refine goS ?_
    exact QN.asgT b _ (Sub.C1 rfl (Sub.C1 rfl (Sub.C1 rfl (Sub.C1 rfl Sub.nil)))) hS rfl
  · rintro l2 C pre x b _ G m2 _ ⟨hp, H1, rfl, hI⟩ ⟨hx1, hx2⟩ rfl hS
    have hx3 : (allL q.units)[pre.length]? = some x := by rw [allL_get, hx2, ← hx1]; rfl
    have hp' : pre ++ [x] = (allL q.units).take (pre ++ [x]).length := by
      rw [List.length_append, List.length_singleton, List.take_add_one, hx3, ← hp]; rfl
    have hfl : (pre ++ [x]).filter (fun x => !hasB D x.2.id) = pre.filter (fun x => !hasB D x.2.id) ++ (if hasB D x.2.id then [] else [x]) := by
      rw [List.filter_append]
      cases hh : hasB D x.2.id <;> simp [hh]
    have hS := hS.mid
    simp only [zC, zN] at hS
    have hV := hneed _ H1 hI
    have hN := List.mem_append_left G hV.b
    refine goS ?_
    have up : ∀ {A : Asn}, A ∈ H1 → A ∈ blkA b 101 (uC x.2) :: C :: blkA bx 105 [pA s] :: blkA b2 170 [.func (.yield l) #[] #[]] :: (H1 ++ G) := fun h => zO _ (zO _ (zO _ (zO _ (List.mem_append_left _ h))))
    refine RL.callM (fi := []) (ca := []) hS (hg _ x.2.id ⟨up hV.g.d, up hV.g.h⟩) rfl rfl rfl rfl (Sels.self _) ?_
    clear hS
    rintro _ m _ ⟨rfl, rfl⟩ hS
    simp only [List.append_nil] at hS
    refine ⟨_, rfl, ?_⟩
    refine goS ?_
    cases hh : hasB D x.2.id with
    | true =>
      refine goS ?_
      exact QN.roundT (hS.tail.perm (List.perm_append_comm (l₁ := C :: blkA bx 105 [pA s] :: blkA b2 170 [.func (.yield l) #[] #[]] :: H1))) ⟨hp', H1, rfl, by rw [hfl, hh]; simpa using hI⟩
    | false =>
      refine goS ?_
      have h7 := seen_at hx3 hh
      rw [← hp] at h7
      refine RL.yield rfl rfl rfl (hy (pre.filter fun x => !hasB D x.2.id) x ([blkA b 101 (uC x.2), C, blkA bx 105 [pA s], blkA b2 170 [.func (.yield l) #[] #[]]] ++ G) m H1 hI h7 (hS.perm ((List.perm_append_comm (l₁ := H1) (l₂ := G)).append_left [_, _, _, _]))) ?_ ?_ ?_
      · rintro v m2 ⟨H3, hS2, hr⟩
        clear hS
        have hS := (show Tr m0 M0 X m2 (blkA b 101 (uC x.2) :: C :: blkA bx 105 [pA s] :: blkA b2 170 [.func (.yield l) #[] #[]] :: (G ++ H3)) from hS2).tail.perm (List.perm_append_comm_assoc [C, blkA bx 105 [pA s], blkA b2 170 [.func (.yield l) #[] #[]]] G H3)
        rcases hr with ⟨he, hI2⟩ | ⟨he, hI2⟩ <;> cases he
        · refine ⟨_, rfl, ?_⟩
          refine goS ?_
          exact QN.roundT hS ⟨hp', H3, rfl, by rw [hfl, hh]; exact hI2⟩
        · refine ⟨_, rfl, ?_⟩
          refine goS ?_
          exact QN.retT hS ⟨rfl, _, H3, rfl, hI2⟩
      · rintro ch m2 ⟨H2, _, ⟨he, _⟩ | ⟨he, _⟩⟩ <;> cases he
      · rintro m2 ⟨H2, _, ⟨he, _⟩ | ⟨he, _⟩⟩ <;> cases he
  · rintro B r xs m' _ hl ⟨hp, H1, rfl, hI⟩ hS
    refine QN.B1 (QN.leaveT (.inr rfl) hS (fun m' hS => ⟨Res.none rfl, _, rfl, .inl ⟨_, H1, ?_, hI, hS.tail.tail⟩⟩))
    have hx : xs = allL q.units := by
      rw [hp, List.take_of_length_le]
      rw [hl]; simp [allL]
    rw [hx]; rfl
  · rintro B r c pre m' _ ⟨rfl, pre', H1, rfl, hI⟩ hS
    refine go ?_
    exact QN.leaveT (.inl rfl) hS (fun m' hS => ⟨Res.none rfl, _, rfl, .inr ⟨pre', H1, hI, hS.tail.tail⟩⟩)
end Go.Proofs.YtgpgladbdoimdaaGreatDoor
end
section
namespace Go.Proofs.YtgpgladbdoimdaaGreatDoor
open Go.ChangeShapes Go.WideShapes Go.ChangeAt Go.RowKit Go.Ev Go.Ids Go.SeqP
set_option maxRecDepth 20000
set_option maxHeartbeats 1000000
abbrev dcR (d : Nat) (x : Dx) (F : List Asn) : List Asn :=
  blkA d 147 [pA x.s, .map (some x.rk), x.vt, x.vd, .map (some x.rw), x.vh, pA x.sq, .map (some x.ru), x.vm, pA x.mm, x.vv, nU x.st] :: stA x.S1 x.s x.B :: mapA x.rk nU x.es :: trnA x.S2 x.vt x.T :: rngA x.S3 x.vd x.D :: mapA x.rw iV x.W :: rngA x.S4 x.vh x.h :: mapA x.ru iV x.E :: opsA x.S6 x.vm x.M :: rngA x.S7 x.vv x.V :: F
abbrev sq5 (q : Sq) (s ra rt : Nat) (fr : Bool) (at_ : List (Idn × Value)) (ord ro : Rw) : List Asn := [blkA s 175 [.map (some ra), ord.v, ro.v, .map (some rt), .bool fr], mapA ra iV q.allE, mapA rt iV at_, ord.A, ro.A]
theorem dseq_s (d : Nat) (x : Dx) (ht : x.q.tr = true) : DoS Tryz.prog 40 [pA d] (dcH d x []) (fun r H => ∃ S2 s2 S5 ad, r = pA s2 ∧ H = flatA S2 s2 (flQ x.q.units ad) :: dcH d { x with S5 := S5 } []) := by
  intro m0 X hS
  obtain ⟨M0, hM0⟩ : ∃ M0, M0 = ofps (dcH d x []) := ⟨_, rfl⟩
  rw [← hM0] at hS ⊢
  dsimp only [dcH] at hS
  refine FnE.enter ⟨_, Tryz.func40, by kernel_rfl, by kernel_rfl⟩ Tryz.func40 rfl rfl ?_
  refine goS ?_
  refine RL.callM (fi := []) (ca := []) hS (seqcopy_s x.S5 x.sq x.q ht) rfl rfl rfl rfl (by repeat (first | with_reducible exact Sels.nil | apply Sels.ro (by with_reducible repeat (first | exact zS .. | apply zO)) (by rfl) | apply Sels.own (by with_reducible repeat (first | exact Sel.head | apply Sel.tail)))) ?_
  clear hS
  rintro _ m _ ⟨S1, S2, s2, ad, rfl, rfl⟩ hS
  simp only [zC, zN] at hS
  refine ⟨_, rfl, ?_⟩
  refine goS ?_
  refine QN.ret1 rfl rfl ⟨_, rfl, _, ⟨S2, s2, S1, ad, rfl, rfl⟩, ?_⟩
  dsimp only [dcH]
  exact (hS.sels (by repeat (first | with_reducible exact Sels.nil | apply Sels.ro (by with_reducible repeat (first | exact zS .. | apply zO)) (by rfl) | apply Sels.own (by with_reducible repeat (first | exact Sel.head | apply Sel.tail))))).drop
theorem dels_s (d : Nat) (x : Dx) (hl : x.D.length < 1000000000) : DoS Tryz.prog 42 [pA d] (dcH d x []) (fun r H => r.oneCell' = true ∧ H = roA 3 r (x.D.flatMap rC) :: dcH d x []) := by
  intro m0 X hS
  obtain ⟨M0, hM0⟩ : ∃ M0, M0 = ofps (dcH d x []) := ⟨_, rfl⟩
  rw [← hM0] at hS ⊢
  refine FnE.enter ⟨_, Tryz.func42, by kernel_rfl, by kernel_rfl⟩ Tryz.func42 rfl rfl ?_
  refine goS ?_
  refine RL.call (fi := []) (ca := []) rfl rfl rfl rfl (clone_range m0 x.vd x.D (hS.ownSl (show rngA x.S3 x.vd x.D ∈ dcH d x [] from by simp)) hl) ?_
  rintro r m' ⟨hr, hE, h1r⟩
  have hS := cloned_tr hS hr hE
  refine ⟨_, rfl, ?_⟩
  refine goS ?_
  exact QN.ret1 rfl rfl ⟨_, rfl, _, ⟨h1r, rfl⟩, hS⟩
theorem units_s (d : Nat) (x : Dx) (hD : x.D = []) : DoS Tryz.prog 21 [pA d] (dcH d x []) (fun r H => ∃ S S5, H = idsA S r ((seenL x.D x.q.units).map (·.2.id)) :: dcH d { x with S5 := S5 } []) := by
  intro m0 X hS
  obtain ⟨M0, hM0⟩ : ∃ M0, M0 = ofps (dcH d x []) := ⟨_, rfl⟩
  rw [← hM0] at hS ⊢
  have hS := (hS.sels (Pre := seqA x.S5 x.sq x.q :: dcR d x []) (by repeat (first | with_reducible exact Sels.nil | apply Sels.ro (by with_reducible repeat (first | exact zS .. | apply zO)) (by rfl) | apply Sels.own (by with_reducible repeat (first | exact Sel.head | apply Sel.tail))))).drop
  obtain ⟨ra, rt, fr, at_, ord, ro, N, k, hS⟩ := seq_open hS
  refine FnE.enterM ⟨_, Tryz.func21, by kernel_rfl, by kernel_rfl⟩ Tryz.func21 rfl rfl ?_
  refine goS ?_
  refine RL.allocS T_ok rfl hS rfl rfl ?_; (try clear hS); intro b3 m hS; refine ⟨_, rfl, ?_⟩
  have hS := hS.empty 30 2 none
  refine goS ?_
  refine RL.callM (fi := []) (ca := []) hS (seen_s d) rfl rfl rfl rfl .nil ?_
  clear hS
  rintro _ m _ ⟨b1, rfl, rfl⟩ hS
  simp only [zC, zN] at hS
  refine ⟨_, rfl, ?_⟩
  refine goS ?_
  have hS := hS.perm (.swap ..)
  refine WP.rangeT (β := Nat) (fun x : Nat × Un => [.int .i64 x.1, uV x.2]) rfl (seen1_t d b1 x.D x.q (pA x.s) (.map (some x.rk)) x.vt x.vd (.map (some x.rw)) x.vh x.sq [.map (some x.ru), x.vm, pA x.mm, x.vv, nU x.st] x.S3 (.map (some ra)) ro.v (.map (some rt)) (.bool fr) ord (by rw [k.ok.flen]; exact k.few) (fun L id hV => by
      rw [hD] at hV ⊢
      exact gone0_s d L _ _ _ _ _ _ id hV)) ⟨_, Tryz.func131, by kernel_rfl, by kernel_rfl⟩ hS
    (fun pre H => pre = (seenL x.D x.q.units).take pre.length ∧ ∃ S v, H = idsA S v (pre.map (·.2.id)) :: blkA b1 24 [pA d] :: blkA b3 37 [v] :: sqH x.q x.sq ra rt fr at_ ord ro N (dcR d x []))
    (fun _ _ _ => False) ⟨rfl, [], _, rfl⟩ ?_ _ (fun _ => rfl) (fun _ => rfl)
    (fun x b => [(0, pA d), (3, pA b3), (5, pA b)]) (fun x b G => G = [blkA b 101 (uC x.2)]) ?_ ?_ ?_ ?_
  · rintro pre H C ⟨_, S, v, rfl⟩
    refine ⟨by simp, ⟨by simp, by simp⟩, by simp, by simp, k.o, fun i hi => ?_⟩
    obtain ⟨d, _, h2, h3, h4⟩ := k.l.get ((k.ok.mem i).1 hi)
    exact ⟨d.p, d.rl.v, d.rr.v, d.sz, h3 ▸ h4 ▸ (by simp [(mem_ndL h2).1] : d.A ∈ _)⟩
  · intro l C pre x G m1 H1 _ _ hS
    refine goS ?_
    refine RL.allocS T_ok rfl hS rfl rfl ?_; (try clear hS); intro b m hS; refine ⟨_, rfl, ?_⟩
    refine goS ?_
    refine RL.ssM T_ok hS rfl rfl rfl rfl rfl (by rfl) (by rfl) (by with_reducible repeat (first | exact Rep.head | apply Rep.tail)) (by rfl) ?_; (try clear hS); intro m hS
    refine goS ?_
    exact QN.asgT b _ (Sub.C1 rfl (Sub.C1 rfl (Sub.C1 rfl Sub.nil))) hS rfl
  · rintro l2 C pre y b _ G m2 _ ⟨hp, S, v, rfl⟩ hy rfl hS
    have hS := hS.mid
    simp only [zC, zN] at hS
    have hlt : pre.length < 1000000 := by
      have h1 := (List.getElem?_eq_some_iff.1 hy).1
      have h2 : (seenL x.D x.q.units).length ≤ x.q.units.length := Nat.le_trans (List.length_filter_le _ _) (by simp [allL])
      have h3 := k.few
      rw [k.ok.ulen] at h2
      omega
    have hml : (pre.map fun x : Nat × Un => x.2.id).length = pre.length := List.length_map ..
    refine goS ?_
    refine RL.append1M T_ok hS [.tmp 12] (iC y.2.id) rfl rfl rfl rfl rfl rfl rfl rfl rfl rfl (.tail (.tail .head)) (by intro u hu; simp only [List.mem_singleton] at hu; subst hu; rfl) (jC_one _) (by rw [hml]; unfold maxLen; omega) (by rw [hml]; show (_ + _) * 16 ≤ _; omega) ?_
    clear hS
    intro b' v' m S' hS
    have e : ownA S' 30 2 v' ((pre.map fun x : Nat × Un => x.2.id).length + 1) ((pre.map fun x : Nat × Un => x.2.id).flatMap iC ++ iC y.2.id) = idsA S' v' ((pre ++ [y]).map fun x : Nat × Un => x.2.id) := by simp [idsA]
    have hS : Tr m0 M0 X m (ownA S' 30 2 v' ((pre.map fun x : Nat × Un => x.2.id).length + 1) ((pre.map fun x : Nat × Un => x.2.id).flatMap iC ++ iC y.2.id) :: _) := hS
    rw [e] at hS
    obtain ⟨A, c, hv', _⟩ := Ev.Own.shape (show Ev.Own m S' 30 2 v' _ _ from hS.head)
    subst hv'
    refine ⟨_, rfl, ?_⟩
    refine goS ?_
    refine RL.storeM T_ok hS rfl rfl rfl rfl (by rfl) (by rfl) (by with_reducible repeat (first | exact Rep.head | apply Rep.tail)) (by rfl) ?_; (try clear hS); intro m hS
    refine goS ?_
    obtain ⟨v', hv'⟩ : ∃ v', v' = Value.slice A ((pre ++ [y]).map fun x : Nat × Un => x.2.id).length c := ⟨_, rfl⟩
    rw [← hv'] at hS
    simp only [List.set_cons_zero] at hS
    have hS := hS.sels (Pre := C :: idsA S' v' ((pre ++ [y]).map fun x : Nat × Un => x.2.id) :: blkA b1 24 [pA d] :: blkA b3 37 [v'] :: sq5 x.q x.sq ra rt fr at_ ord ro) (by repeat (first | with_reducible exact Sels.nil | apply Sels.ro (by with_reducible repeat (first | exact zS .. | apply zO)) (by rfl) | apply Sels.own (by with_reducible repeat (first | exact Sel.head | apply Sel.tail))))
    exact QN.roundT (H' := idsA S' v' ((pre ++ [y]).map fun x : Nat × Un => x.2.id) :: blkA b1 24 [pA d] :: blkA b3 37 [v'] :: sqH x.q x.sq ra rt fr at_ ord ro N (dcR d x [])) (tr_fix (T := [_]) (A := C :: idsA S' v' ((pre ++ [y]).map fun x : Nat × Un => x.2.id) :: blkA b1 24 [pA d] :: blkA b3 37 [v'] :: sq5 x.q x.sq ra rt fr at_ ord ro) (B := ndL N ++ dcR d x []) hS) ⟨by rw [List.length_append, List.length_singleton, List.take_add_one, hy, ← hp]; rfl, S', v', rfl⟩
  · rintro B r xs m' _ hl ⟨hp, S, v, rfl⟩ hS
    refine goS ?_
    have hx : xs = seenL x.D x.q.units := by rw [hp, hl, List.take_length]
    refine QN.leaveT (r := v) (.inl rfl) hS (fun m' hS => ?_)
    have hS := hS.perm (List.perm_append_comm (l₁ := [_, _, _]))
    obtain ⟨S5, hS⟩ := seq_close k (F := dcR d x [idsA S v (xs.map fun x : Nat × Un => x.2.id), blkA b1 24 [pA d], blkA b3 37 [v]]) (by simpa only [sqH, dcR, List.cons_append, List.append_assoc, List.nil_append] using hS)
    refine ⟨Res.tmp rfl rfl, _, rfl, _, ⟨S, S5, rfl⟩, ?_⟩
    rw [← hx]
    dsimp only [dcH]
    exact (hS.sels (by repeat (first | with_reducible exact Sels.nil | apply Sels.ro (by with_reducible repeat (first | exact zS .. | apply zO)) (by rfl) | apply Sels.own (by with_reducible repeat (first | exact Sel.head | apply Sel.tail))))).drop
  · exact fun _ _ _ _ _ _ h _ => h.elim
end Go.Proofs.YtgpgladbdoimdaaGreatDoor
end
section
namespace Go.Proofs.YtgpgladbdoimdaaGreatDoor
open Go.ChangeShapes Go.WideShapes Go.ChangeAt Go.RowKit Go.Ev Go.Ids Go.SeqP
set_option maxRecDepth 20000
set_option maxHeartbeats 1000000
def rowU (us : List Un) : Us := ⟨us, rowF 0 us.length⟩
def gapP (us : List Un) (a : Anc) : Int × Bool :=
  if a.id = O0 then (if a.b then (us.length : Int) else 0, true) else if (rowU us).find a.id < 0 then (0, false) else ((rowU us).find a.id + if a.b then 1 else 0, true)
theorem find_le (q : Us) (h : q.Ok) (id : Idn) : -1 ≤ q.find id ∧ q.find id ≤ q.us.length := by
  unfold Us.find
  cases hi : q.idx id with
  | none => simp
  | some i =>
    have := h.place_lt (Us.idx_some hi).1
    simp only
    omega
theorem gap_s (S : List Nat) (s : Nat) (us : List Un) (ad : List Nat) (a : Anc) (hok : (rowU us).Ok) (few : us.length ≤ 1000000) : DoS Tryz.prog 41 [pA s, aV a] [flatA S s (flQ us ad)] (fun r H => r = .tuple #[.int .i64 (gapP us a).1, .bool (gapP us a).2] ∧ ∃ S', H = [flatA S' s (flQ us ad)]) := by
  intro m0 X hS
  have hfd : (flQ us ad).find a.id = (rowU us).find a.id := rfl
  have hfb := find_le _ hok a.id
  have hul : (rowU us).us.length = us.length := rfl
  refine FnE.enter ⟨_, Tryz.func41, by kernel_rfl, by kernel_rfl⟩ Tryz.func41 rfl rfl ?_
  refine goS ?_
  refine RL.boxS hS rfl rfl rfl ?_; (try clear hS); intro b3 m hS; refine ⟨_, rfl, ?_⟩
  refine goS ?_
  refine RL.binOp (eqI_eql a.id ⟨0, 0⟩) (eqI_guard _ _ _ _ _) rfl rfl rfl rfl ?_
  by_cases h0 : a.id = O0
  · rw [decide_eq_true (show a.id = ⟨0, 0⟩ from h0)]
    refine goS ?_
    cases hb : a.b with
    | true =>
      refine goS ?_
      refine RL.callM (fi := []) (ca := []) hS (flen_s S s (flQ us ad)) rfl rfl rfl rfl (by repeat (first | with_reducible exact Sels.nil | apply Sels.ro (by with_reducible repeat (first | exact zS .. | apply zO)) (by rfl) | apply Sels.own (by with_reducible repeat (first | exact Sel.head | apply Sel.tail)))) ?_
      clear hS
      rintro _ m _ ⟨rfl, S', rfl⟩ hS
      refine ⟨_, rfl, ?_⟩
      refine goS ?_
      exact QN.ret2 rfl rfl rfl ⟨_, rfl, _, ⟨by rw [gapP, if_pos h0, hb]; rfl, S', rfl⟩, Tr.drop (H := [_]) hS⟩
    | false =>
      refine goS ?_
      exact QN.ret2 rfl rfl rfl ⟨_, rfl, _, ⟨by rw [gapP, if_pos h0, hb]; rfl, S, rfl⟩, hS.tail⟩
  · rw [decide_eq_false (show ¬ a.id = ⟨0, 0⟩ from h0)]
    refine goS ?_
    refine RL.callM (fi := []) (ca := []) hS (findF_s S s (flQ us ad) a.id) rfl rfl rfl rfl (by repeat (first | with_reducible exact Sels.nil | apply Sels.ro (by with_reducible repeat (first | exact zS .. | apply zO)) (by rfl) | apply Sels.own (by with_reducible repeat (first | exact Sel.head | apply Sel.tail)))) ?_
    clear hS
    rintro _ m _ ⟨rfl, S', rfl⟩ hS
    rw [hfd]
    simp only [zC, zN] at hS
    refine ⟨_, rfl, ?_⟩
    refine goS ?_
    by_cases hn : (rowU us).find a.id < 0
    · rw [decide_eq_true hn]
      refine goS ?_
      exact QN.ret2 rfl rfl rfl ⟨_, rfl, _, ⟨by rw [gapP, if_neg h0, if_pos hn], S', rfl⟩, Tr.drop (H := [_]) hS⟩
    · rw [decide_eq_false hn]
      refine goS ?_
      cases hb : a.b with
      | true =>
        refine goS ?_
        refine QN.ret2 rfl rfl rfl ⟨_, rfl, _, ⟨?_, S', rfl⟩, Tr.drop (H := [_]) hS⟩
        rw [gapP, if_neg h0, if_neg hn, hb, wrap_i64_in _ (by omega) (by omega)]; rfl
      | false =>
        refine goS ?_
        refine QN.ret2 rfl rfl rfl ⟨_, rfl, _, ⟨?_, S', rfl⟩, Tr.drop (H := [_]) hS⟩
        rw [gapP, if_neg h0, if_neg hn, hb, wrap_i64_in _ (by omega) (by omega)]; rfl
def makeP (l : List Idn) (at_ : Int) (after : Bool) : Anc × Bool :=
  if at_ < 0 ∨ at_ > l.length then (⟨O0, false⟩, false) else if after then (if at_ > 0 then (⟨l.getD (at_.toNat - 1) O0, true⟩, true) else (⟨O0, false⟩, true)) else if at_ < l.length then (⟨l.getD at_.toNat O0, false⟩, true) else (⟨O0, true⟩, true)
theorem make_s (d : Nat) (x : Dx) (hD : x.D = []) (at_ : Int) (after : Bool) : DoS Tryz.prog 11 [pA d, .int .i64 at_, .bool after] (dcH d x []) (fun r H => r = .tuple #[aV (makeP ((seenL x.D x.q.units).map (·.2.id)) at_ after).1, .bool (makeP ((seenL x.D x.q.units).map (·.2.id)) at_ after).2] ∧ ∃ S5, H = dcH d { x with S5 := S5 } []) := by
  intro m0 X hS
  obtain ⟨M0, hM0⟩ : ∃ M0, M0 = ofps (dcH d x []) := ⟨_, rfl⟩
  rw [← hM0] at hS ⊢
  refine FnE.enter ⟨_, Tryz.func11, by kernel_rfl, by kernel_rfl⟩ Tryz.func11 rfl rfl ?_
  refine goS ?_
  refine RL.allocS T_ok rfl hS rfl rfl ?_; (try clear hS); intro b6 m hS; refine ⟨_, rfl, ?_⟩
  refine goS ?_
  refine RL.callM (fi := []) (ca := []) hS (units_s d x hD) rfl rfl rfl rfl (by repeat (first | with_reducible exact Sels.nil | apply Sels.ro (by with_reducible repeat (first | exact zS .. | apply zO)) (by rfl) | apply Sels.own (by with_reducible repeat (first | exact Sel.head | apply Sel.tail)))) ?_
  clear hS
  obtain ⟨l, hl⟩ : ∃ l, l = (seenL x.D x.q.units).map (·.2.id) := ⟨_, rfl⟩
  rw [← hl]
  rintro v m _ ⟨S, S5, rfl⟩ hS
  obtain ⟨A, c, rfl, hc⟩ := Ev.Own.shape (show Ev.Own m S 30 2 v l.length (l.flatMap iC) from hS.head)
  refine ⟨_, rfl, ?_⟩
  refine goS ?_
  obtain ⟨H0, hH0⟩ : ∃ H0, H0 = dcH d { x with S5 := S5 } [] := ⟨_, rfl⟩
  have hS : Tr m0 M0 X m (idsA S (.slice A l.length c) l :: (dcH d { x with S5 := S5 } [] ++ [blkA b6 32 (aC ⟨O0, false⟩)])) := hS
  rw [← hH0] at hS
  have hS := hS.perm ((List.perm_append_comm (l₁ := _ :: H0) (l₂ := [_])))
  have fin : ∀ {m : World} {cs : List Value}, Tr m0 M0 X m ([blkA b6 32 cs] ++ idsA S (.slice A l.length c) l :: H0) → Tr m0 M0 X m (dcH d { x with S5 := S5 } []) := fun h => hH0 ▸ h.tail.tail
  have hsl := hS.ownSl (show idsA S (.slice A l.length c) l ∈ _ from by simp)
  simp only [zC, zN] at hS
  have ret : ∀ {m : World} {Q : Anc} {cs : List Value}, cs = aC Q → Tr m0 M0 X m (blkA b6 32 cs :: idsA S (.slice A l.length c) l :: H0) → Tr m0 M0 X m (blkA b6 32 (aC Q) :: idsA S (.slice A l.length c) l :: H0) := fun h h' => h ▸ h'
  by_cases h1 : at_ < 0
  · rw [decide_eq_true h1]
    refine goS ?_
    refine RL.ssM T_ok hS rfl rfl rfl rfl rfl (by rfl) (by rfl) (by with_reducible repeat (first | exact Rep.head | apply Rep.tail)) (by rfl) ?_; (try clear hS); intro m hS
    refine goS ?_
    have hS := ret (Q := ⟨O0, false⟩) rfl hS
    exact QN.retV (Res.celT T_ok hS rfl rfl rfl rfl (by with_reducible repeat (first | exact zS .. | apply zO))) ⟨_, rfl, _, ⟨by rw [makeP, if_pos (.inl h1)]; rfl, S5, rfl⟩, fin hS⟩
  · rw [decide_eq_false h1]
    refine goS ?_
    by_cases h2 : at_ > (l.length : Int)
    · rw [decide_eq_true h2]
      refine goS ?_
      refine RL.ssM T_ok hS rfl rfl rfl rfl rfl (by rfl) (by rfl) (by with_reducible repeat (first | exact Rep.head | apply Rep.tail)) (by rfl) ?_; (try clear hS); intro m hS
      refine goS ?_
      have hS := ret (Q := ⟨O0, false⟩) rfl hS
      exact QN.retV (Res.celT T_ok hS rfl rfl rfl rfl (by with_reducible repeat (first | exact zS .. | apply zO))) ⟨_, rfl, _, ⟨by rw [makeP, if_pos (.inr h2)]; rfl, S5, rfl⟩, fin hS⟩
    · rw [decide_eq_false h2]
      have h12 : ¬ (at_ < 0 ∨ at_ > (l.length : Int)) := by omega
      refine goS ?_
      have hcm : l.length ≤ maxLen := by
        obtain ⟨A', c', he, h8, h9⟩ := Js.shape hsl
        exact Nat.le_trans h8 h9
      unfold maxLen at hcm
      cases after with
      | true =>
        refine goS ?_
        by_cases h3 : at_ > 0
        · rw [decide_eq_true h3]
          refine goS ?_
          obtain ⟨y, hy⟩ : ∃ y, l[at_.toNat - 1]? = some y := ⟨_, List.getElem?_eq_getElem (by omega)⟩
          obtain ⟨ad, rfl, _⟩ := Js.cell hsl (at_.toNat - 1) (by omega)
          refine RL.indexAddr (k := at_.toNat - 1) T_ok rfl rfl rfl rfl rfl rfl (by rw [wrap_i64_in _ (by omega) (by omega)]; omega) (by omega) rfl ?_
          refine RL.ldEA T_ok iC (fun _ => rfl) hsl hy rfl rfl rfl rfl rfl ?_
          refine goS ?_
          refine RL.ssM T_ok hS rfl rfl rfl rfl rfl (by rfl) (by rfl) (by with_reducible repeat (first | exact Rep.head | apply Rep.tail)) (by rfl) ?_; (try clear hS); intro m hS
          refine goS ?_
          have hS := ret (Q := ⟨y, true⟩) rfl hS
          exact QN.retV (Res.celT T_ok hS rfl rfl rfl rfl (by with_reducible repeat (first | exact zS .. | apply zO))) ⟨_, rfl, _, ⟨by rw [makeP, if_neg h12, if_pos rfl, if_pos h3, List.getD_eq_getElem?_getD, hy]; rfl, S5, rfl⟩, fin hS⟩
        · rw [decide_eq_false h3]
          refine goS ?_
          refine RL.ssM T_ok hS rfl rfl rfl rfl rfl (by rfl) (by rfl) (by with_reducible repeat (first | exact Rep.head | apply Rep.tail)) (by rfl) ?_; (try clear hS); intro m hS
          refine goS ?_
          have hS := ret (Q := ⟨O0, false⟩) rfl hS
          exact QN.retV (Res.celT T_ok hS rfl rfl rfl rfl (by with_reducible repeat (first | exact zS .. | apply zO))) ⟨_, rfl, _, ⟨by rw [makeP, if_neg h12, if_pos rfl, if_neg h3]; rfl, S5, rfl⟩, fin hS⟩
      | false =>
        refine goS ?_
        by_cases h3 : at_ < (l.length : Int)
        · rw [decide_eq_true h3]
          refine goS ?_
          obtain ⟨y, hy⟩ : ∃ y, l[at_.toNat]? = some y := ⟨_, List.getElem?_eq_getElem (by omega)⟩
          obtain ⟨ad, rfl, _⟩ := Js.cell hsl at_.toNat (by omega)
          refine RL.indexAddr (k := at_.toNat) T_ok rfl rfl rfl rfl rfl rfl (by omega) (by omega) rfl ?_
          refine RL.ldEA T_ok iC (fun _ => rfl) hsl hy rfl rfl rfl rfl rfl ?_
          refine goS ?_
          refine RL.ssM T_ok hS rfl rfl rfl rfl rfl (by rfl) (by rfl) (by with_reducible repeat (first | exact Rep.head | apply Rep.tail)) (by rfl) ?_; (try clear hS); intro m hS
          refine goS ?_
          have hS := ret (Q := ⟨y, false⟩) rfl hS
          exact QN.retV (Res.celT T_ok hS rfl rfl rfl rfl (by with_reducible repeat (first | exact zS .. | apply zO))) ⟨_, rfl, _, ⟨by rw [makeP, if_neg h12, if_neg (by decide), if_pos h3, List.getD_eq_getElem?_getD, hy]; rfl, S5, rfl⟩, fin hS⟩
        · rw [decide_eq_false h3]
          refine goS ?_
          refine RL.ssM T_ok hS rfl rfl rfl rfl rfl (by rfl) (by rfl) (by with_reducible repeat (first | exact Rep.head | apply Rep.tail)) (by rfl) ?_; (try clear hS); intro m hS
          refine goS ?_
          have hS := ret (Q := ⟨O0, true⟩) rfl hS
          exact QN.retV (Res.celT T_ok hS rfl rfl rfl rfl (by with_reducible repeat (first | exact zS .. | apply zO))) ⟨_, rfl, _, ⟨by rw [makeP, if_neg h12, if_neg (by decide), if_neg h3]; rfl, S5, rfl⟩, fin hS⟩
end Go.Proofs.YtgpgladbdoimdaaGreatDoor
end
section
namespace Go.Proofs.YtgpgladbdoimdaaGreatDoor
open Go.ChangeShapes Go.WideShapes Go.ChangeAt Go.RowKit Go.Ev Go.Ids Go.SeqP
set_option maxRecDepth 20000
set_option maxHeartbeats 1000000
theorem _root_.Go.Ev.Res.two {P : Program} {fn : Func} {n : Nat} {e : Env} {D : Fr} {m : World} {t u : Tmp} {v v' : Value} (hr : fn.results = #[.tmp t, .tmp u]) (ht : e.get t = some v) (hu : e.get u = some v') : Res P fn n e D m (.tuple #[v, v']) := by
  intro a w hf _
  rw [results_tmp2 hr, getD_of_some (hf.get t v ht), getD_of_some (hf.get u v' hu)]
theorem hasro_p (v : Value) (l : List Rng) (hl : l.length < 1000000000) (id : Idn) : Pur Tryz.prog 44 [v, iV id] [roA 3 v (l.flatMap rC)] (.bool (hasB l id)) := by
  intro m X hS
  refine (has_c m v l (Sl.less hS.head.1 (fun k hk => by cases hk) (by omega)) hl id).mono ?_
  rintro r m' ⟨h1, h2⟩
  exact ⟨_, ⟨h1, rfl⟩, (hS.calm h2).tail⟩
theorem gap_nn {us : List Un} {a : Anc} (hok : (rowU us).Ok) : 0 ≤ (gapP us a).1 ∧ (gapP us a).1 ≤ us.length + 1 := by
  have h := find_le _ hok a.id
  have hul : (rowU us).us.length = us.length := rfl
  unfold gapP
  split
  · simp only
    split <;> omega
  · split
    · simp only; omega
    · simp only; split <;> omega
def cntP (D : List Rng) (us : List Un) (n : Nat) : Nat := ((us.take n).filter fun u => !hasB D u.id).length
theorem cnt_next {D : List Rng} {us : List Un} {n : Nat} {u : Un} (h : us[n]? = some u) : cntP D us (n + 1) = cntP D us n + (if hasB D u.id then 0 else 1) := by
  unfold cntP
  rw [List.take_add_one, h, List.filter_append, List.length_append]
  cases hh : hasB D u.id <;> simp [hh]
theorem cntP_le (D : List Rng) (us : List Un) (n : Nat) : cntP D us n ≤ us.length := Nat.le_trans (List.length_filter_le _ _) (by simp; omega)
def placeP (D : List Rng) (us : List Un) (a : Anc) : Int × Bool := if (gapP us a).2 then (cntP D us (gapP us a).1.toNat, true) else (0, false)
theorem Us.Ok.units_ok {q : Us} (h : q.Ok) : (rowU q.units).Ok := by
  have := flQ_ok (us := q.units) (ad := []) h.ids_nodup fun u hu => by
    obtain ⟨i, hi1, rfl⟩ := List.mem_map.1 hu
    exact h.right _ (Us.u_mem ((h.mem i).1 hi1))
  exact this
theorem place_s (d : Nat) (x : Dx) (a : Anc) (hq : x.q.Ok) (few : x.q.us.length ≤ 1000000) (ht : x.q.tr = true) (hl : x.D.length < 1000000000) :
    DoS Tryz.prog 15 [pA d, aV a] (dcH d x []) (fun r H => r = .tuple #[.int .i64 (placeP x.D x.q.units a).1, .bool (placeP x.D x.q.units a).2] ∧ ∃ S5, H = dcH d { x with S5 := S5 } []) := by
  intro m0 X hS
  obtain ⟨M0, hM0⟩ : ∃ M0, M0 = ofps (dcH d x []) := ⟨_, rfl⟩
  rw [← hM0] at hS ⊢
  have hok := hq.units_ok
  have hul := hq.ulen
  have hgn := gap_nn (a := a) hok
  refine FnE.enterM ⟨_, Tryz.func15, by kernel_rfl, by kernel_rfl⟩ Tryz.func15 rfl rfl ?_
  refine goS ?_
  refine RL.boxS hS rfl rfl rfl ?_; (try clear hS); intro b3 m hS; refine ⟨_, rfl, ?_⟩
  refine goS ?_
  refine RL.callM (fi := []) (ca := []) hS (dseq_s d x ht) rfl rfl rfl rfl (by repeat (first | with_reducible exact Sels.nil | apply Sels.ro (by with_reducible repeat (first | exact zS .. | apply zO)) (by rfl) | apply Sels.own (by with_reducible repeat (first | exact Sel.head | apply Sel.tail)))) ?_
  clear hS
  rintro _ m _ ⟨S2, s2, S5, ad, rfl, rfl⟩ hS
  have hS := hS.perm (List.perm_append_comm (l₁ := flatA S2 s2 (flQ x.q.units ad) :: dcH d { x with S5 := S5 } []) (l₂ := [blkA b3 32 (aC a)]))
  have hS : Tr m0 M0 X m (blkA b3 32 (aC a) :: flatA S2 s2 (flQ x.q.units ad) :: dcH d { x with S5 := S5 } []) := hS
  refine ⟨_, rfl, ?_⟩
  refine goS ?_
  refine RL.callM (fi := []) (ca := []) hS (gap_s S2 s2 x.q.units ad a hok (by omega)) rfl rfl rfl rfl (by repeat (first | with_reducible exact Sels.nil | apply Sels.ro (by with_reducible repeat (first | exact zS .. | apply zO)) (by rfl) | apply Sels.own (by with_reducible repeat (first | exact Sel.head | apply Sel.tail)))) ?_
  clear hS
  rintro _ m _ ⟨rfl, S2, rfl⟩ hS
  simp only [zC, zN] at hS
  refine ⟨_, rfl, ?_⟩
  refine goS ?_
  refine RL.allocS T_ok rfl hS rfl rfl ?_; (try clear hS); intro b7 m hS; refine ⟨_, rfl, ?_⟩
  refine goS ?_
  refine RL.storeM T_ok hS rfl rfl rfl rfl (by rfl) (by rfl) (by with_reducible repeat (first | exact Rep.head | apply Rep.tail)) (by rfl) ?_; (try clear hS); intro m hS
  refine goS ?_
  obtain ⟨gp, hgp⟩ : ∃ gp : Nat, (gapP x.q.units a).1 = (gp : Int) := ⟨(gapP x.q.units a).1.toNat, by omega⟩
  cases hg : (gapP x.q.units a).2 with
  | false =>
    refine goS ?_
    exact QN.leaveM0 (.inl rfl) (Res.two rfl rfl rfl) ⟨_, rfl, _, ⟨by rw [placeP, hg]; rfl, S5, rfl⟩, (hS.sels (Pre := dcH d { x with S5 := S5 } []) (by repeat (first | with_reducible exact Sels.nil | apply Sels.ro (by with_reducible repeat (first | exact zS .. | apply zO)) (by rfl) | apply Sels.own (by with_reducible repeat (first | exact Sel.head | apply Sel.tail))))).drop⟩
  | true =>
    rw [hgp] at hS
    refine goS ?_
    refine RL.callM (fi := []) (ca := []) hS (dels_s d { x with S5 := S5 } hl) rfl rfl rfl rfl (by repeat (first | with_reducible exact Sels.nil | apply Sels.ro (by with_reducible repeat (first | exact zS .. | apply zO)) (by rfl) | apply Sels.own (by with_reducible repeat (first | exact Sel.head | apply Sel.tail)))) ?_
    clear hS
    rintro v m _ ⟨_, rfl⟩ hS
    simp only [dcH, zC, zN] at hS
    obtain ⟨A, c, hv, _⟩ := Rs.shape (show Rs m _ v x.D from hS.head.1)
    subst hv
    refine ⟨_, rfl, ?_⟩
    refine goS ?_
    refine RL.allocS T_ok rfl hS rfl rfl ?_; (try clear hS); intro b9 m hS; refine ⟨_, rfl, ?_⟩
    refine goS ?_
    refine RL.allocS T_ok rfl hS rfl rfl ?_; (try clear hS); intro b10 m hS; refine ⟨_, rfl, ?_⟩
    refine goS ?_
    refine RL.storeM T_ok hS rfl rfl rfl rfl (by rfl) (by rfl) (by with_reducible repeat (first | exact Rep.head | apply Rep.tail)) (by rfl) ?_; (try clear hS); intro m hS
    refine goS ?_
    refine RL.storeM T_ok hS rfl rfl rfl rfl (by rfl) (by rfl) (by with_reducible repeat (first | exact Rep.head | apply Rep.tail)) (by rfl) ?_; (try clear hS); intro m hS
    refine goS ?_
    refine RL.callM (fi := []) (ca := []) hS (all_s s2) rfl rfl rfl rfl .nil ?_
    clear hS
    rintro _ m _ ⟨bx, rfl, rfl⟩ hS
    simp only [zC, zN] at hS
    refine ⟨_, rfl, ?_⟩
    refine goS ?_
    obtain ⟨v, hv⟩ : ∃ v, v = Value.slice A x.D.length c := ⟨_, rfl⟩
    rw [← hv] at hS
    have hS := (hS.sels (Pre := flatA S2 s2 (flQ x.q.units ad) :: roA 3 v (x.D.flatMap rC) :: blkA bx 105 [pA s2] :: blkA b10 3 [.int .i64 0] :: blkA b9 46 [v] :: blkA b7 3 [.int .i64 gp] :: dcH d { x with S5 := S5 } []) (by repeat (first | with_reducible exact Sels.nil | apply Sels.ro (by repeat (first | exact zS .. | with_reducible apply zO)) (by rfl) | apply Sels.own (by repeat (first | exact Sel.head | with_reducible apply Sel.tail))))).drop
    obtain ⟨ra, rt, fr, at_, ord, rv, N, k, hS⟩ := fl_open hS
    have hS := hS.perm (List.perm_append_comm_assoc (_ :: _ :: _ :: _ :: N.map Nf.A) [_, _, _, _, _] (dcH d { x with S5 := S5 } []))
    have hfu : (flQ x.q.units ad).units = x.q.units := flQ_units ..
    have hfin : ∀ {m : World} {n : Nat}, Tr m0 M0 X m (roA 3 v (x.D.flatMap rC) :: blkA bx 105 [pA s2] :: blkA b10 3 [.int .i64 (cntP x.D x.q.units n)] :: blkA b9 46 [v] :: blkA b7 3 [.int .i64 gp] :: flH (flQ x.q.units ad) s2 ra rt fr at_ ord rv N (dcH d { x with S5 := S5 } [])) → Tr m0 M0 X m (dcH d { x with S5 := S5 } []) := fun h =>
      Tr.drop (F := N.map Nf.A) (h.tail.tail.tail.tail.tail.tail.tail.tail.tail.perm List.perm_append_comm)
    refine WP.rangeT (β := Nat) (fun y : Nat × Un => [.int .i64 y.1, uV y.2]) rfl (all1_t (flQ x.q.units ad) bx s2 (.map (some ra)) rv (.map (some rt)) (.bool fr) ord (by rw [k.ok.flen]; exact k.few)) ⟨_, Tryz.func90, by kernel_rfl, by kernel_rfl⟩ hS
      (fun pre H => pre.length ≤ gp ∧ H = roA 3 v (x.D.flatMap rC) :: blkA bx 105 [pA s2] :: blkA b10 3 [.int .i64 (cntP x.D x.q.units pre.length)] :: blkA b9 46 [v] :: blkA b7 3 [.int .i64 gp] :: flH (flQ x.q.units ad) s2 ra rt fr at_ ord rv N (dcH d { x with S5 := S5 } []))
      (fun c _ H => c = .exit 0 ∧ H = roA 3 v (x.D.flatMap rC) :: blkA bx 105 [pA s2] :: blkA b10 3 [.int .i64 (cntP x.D x.q.units gp)] :: blkA b9 46 [v] :: blkA b7 3 [.int .i64 gp] :: flH (flQ x.q.units ad) s2 ra rt fr at_ ord rv N (dcH d { x with S5 := S5 } [])) ⟨Nat.zero_le _, rfl⟩ ?_ _ (fun _ => rfl) (fun _ => rfl)
      (fun y b => [(7, pA b7), (9, pA b9), (10, pA b10), (11, .int .i64 y.1), (12, pA b)]) (fun y b G => G = [blkA b 101 (uC y.2)]) ?_ ?_ ?_ ?_
    · rintro pre H C ⟨_, rfl⟩
      exact k.view (by simp) (by simp) (by simp) (fun A hA => by simp [hA])
    · intro l C pre x G m1 H1 _ _ hS
      refine goS ?_
      refine RL.allocS T_ok rfl hS rfl rfl ?_; (try clear hS); intro b m hS; refine ⟨_, rfl, ?_⟩
      refine goS ?_
      refine RL.ssM T_ok hS rfl rfl rfl rfl rfl (by rfl) (by rfl) (by with_reducible repeat (first | exact Rep.head | apply Rep.tail)) (by rfl) ?_; (try clear hS); intro m hS
      refine goS ?_
      exact QN.asgT b _ (Sub.C1 rfl (Sub.C1 rfl (Sub.C1 rfl (Sub.C1 rfl (Sub.C1 rfl Sub.nil))))) hS rfl
    · rintro l2 C pre y b _ G m2 _ ⟨hp, rfl⟩ ⟨hy1, hy2⟩ rfl hS
      rw [hfu] at hy2
      have hS0 := hS.tail
      have hS := hS.mid
      simp only [zC, zN] at hS
      refine goS ?_
      rw [hy1]
      by_cases hge : gp ≤ pre.length
      · have hd : decide ((pre.length : Int) ≥ (gp : Int)) = true := decide_eq_true (by omega)
        rw [hd]
        refine goS ?_
        have he : pre.length = gp := by omega
        refine WP.exit ?_
        (with_reducible repeat (first | refine QN.tx ?_ | refine QN.block_far rfl ?_))
        exact QN.exitT hS0 ⟨rfl, by rw [he]⟩
      · have hd : decide ((pre.length : Int) ≥ (gp : Int)) = false := decide_eq_false (by omega)
        rw [hd]
        refine goS ?_
        refine RL.callU (fi := []) (ca := []) hS (hasro_p v x.D hl y.2.id) rfl rfl rfl rfl (by repeat (first | with_reducible exact Sels.nil | apply Sels.ro (by with_reducible repeat (first | exact zS .. | apply zO)) (by rfl) | apply Sels.own (by with_reducible repeat (first | exact Sel.head | apply Sel.tail)))) rfl (fun m hS => ?_)
        refine goS ?_
        have hcn := cnt_next (D := x.D) hy2
        have hcl := cntP_le x.D x.q.units pre.length
        cases hh : hasB x.D y.2.id with
        | true =>
          rw [hh] at hcn
          refine goS ?_
          have hcn : cntP x.D x.q.units (pre.length + 1) = cntP x.D x.q.units pre.length := hcn
          rw [← hcn] at hS
          exact QN.roundT (hS.tail.perm (List.perm_append_comm (l₁ := C :: roA 3 v (x.D.flatMap rC) :: blkA bx 105 [pA s2] :: blkA b10 3 [.int .i64 (cntP x.D x.q.units (pre.length + 1))] :: blkA b9 46 [v] :: blkA b7 3 [.int .i64 gp] :: flH (flQ x.q.units ad) s2 ra rt fr at_ ord rv N (dcH d { x with S5 := S5 } [])) (l₂ := G))) ⟨by simp; omega, by simp⟩
        | false =>
          rw [hh] at hcn
          refine goS ?_
          rw [if_neg (by decide)] at hcn
          have hw : IntKind.i64.wrap ((cntP x.D x.q.units pre.length : Int) + 1) = ((cntP x.D x.q.units (pre.length + 1) : Nat) : Int) := by rw [wrap_i64_in _ (by omega) (by omega), hcn]; simp
          rw [hw]
          refine RL.storeM T_ok hS rfl rfl rfl rfl (by rfl) (by rfl) (by with_reducible repeat (first | exact Rep.head | apply Rep.tail)) (by rfl) ?_; (try clear hS); intro m hS
          refine goS ?_
          exact QN.roundT (hS.tail.perm (List.perm_append_comm (l₁ := C :: roA 3 v (x.D.flatMap rC) :: blkA bx 105 [pA s2] :: blkA b10 3 [.int .i64 (cntP x.D x.q.units (pre.length + 1))] :: blkA b9 46 [v] :: blkA b7 3 [.int .i64 gp] :: flH (flQ x.q.units ad) s2 ra rt fr at_ ord rv N (dcH d { x with S5 := S5 } [])) (l₂ := G))) ⟨by simp; omega, by simp⟩
    · rintro B r xs m' _ hl2 ⟨hp, rfl⟩ hS
      refine goS ?_
      rw [hfu] at hl2
      refine QN.leaveT (r := .tuple #[.int .i64 (cntP x.D x.q.units xs.length), .bool true]) (.inl rfl) hS (fun m' hS => ⟨Res.two rfl rfl rfl, _, rfl, _, ⟨?_, S5, rfl⟩, hfin hS⟩)
      have e : cntP x.D x.q.units xs.length = cntP x.D x.q.units gp := by unfold cntP; rw [List.take_of_length_le (by omega), List.take_of_length_le (by omega)]
      rw [placeP, hg, if_pos rfl, hgp, Int.toNat_natCast, e]
    · rintro B r c pre m' _ ⟨rfl, rfl⟩ hS
      refine goS ?_
      refine WP.exit ?_
      (with_reducible repeat (first | refine QN.tx ?_ | refine QN.bx ?_ | refine QN.B1 ?_ | refine QN.N1 ?_))
      refine goS ?_
      refine QN.leaveT (r := .tuple #[.int .i64 (cntP x.D x.q.units gp), .bool true]) (.inl rfl) hS (fun m' hS => ⟨Res.two rfl rfl rfl, _, rfl, _, ⟨?_, S5, rfl⟩, hfin hS⟩)
      rw [placeP, hg, if_pos rfl, hgp, Int.toNat_natCast]
end Go.Proofs.YtgpgladbdoimdaaGreatDoor
end
