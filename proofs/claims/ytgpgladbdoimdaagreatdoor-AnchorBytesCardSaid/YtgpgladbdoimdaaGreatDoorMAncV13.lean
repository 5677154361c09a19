/- Texts that belong together. -/
import Derived.Test.YtgpgladbdoimdaaGreatDoorMAncV10
section
namespace Go.Proofs.YtgpgladbdoimdaaGreatDoor
open Go.ChangeShapes Go.WideShapes Go.ChangeAt Go.RowKit Go.Ev Go.Ids Go.SeqP
set_option maxRecDepth 20000
set_option maxHeartbeats 1000000
theorem _root_.Go.Ev.RL.intStr {P : Program} {T : Ty} {ops : Array Oper} {Q : Exit → Act → World → Prop} {rest : List Oper} {n : Nat} {e e' : Env} {D : Fr} {m : World} {d : Option Tmp} {x : Operand} {t t2 ty : TypeId} {pos : String} {aft : Array Edge} {g : Option (Nat × Bool)} {rt : Row} {k kk : IntKind} {i : Int}
    (hT : T.Ok P) (hrt : T.row t = some rt) (hk : rt.k = .int kk) (ht2 : (T.row t2).map (·.k) = some .str) (hg : gd ops e ⟨d, .convert t t2 x, ty, pos, aft, g⟩ = some true) (hx : e.ev x = some (.int k i)) (hp : putE n d (.string (Utf8.encode i)) e = some e') (h : RL P ops Q rest n e' D m) : RL P ops Q (⟨d, .convert t t2 x, ty, pos, aft, g⟩ :: rest) n e D m := by
  refine RL.value _ hg (fun a w hf hs => ?_) hp h
  have u1 := (hT.row hrt).k
  rw [hk] at u1
  have u1 : P.underlying t = some (.int kk) := u1
  have := run_convert_int_string (P := P) w t t2 k i (by rw [u1]; rfl) (isStr hT ht2)
  simp [execOp, hf.ev hx, this]
def oU (o : Opr) : Un := ⟨o.id, o.l, o.r⟩
abbrev dcD (d : Nat) (x : Dx) : Asn := blkA d 147 [pA x.s, .map (some x.rk), x.vt, x.vd, .map (some x.rw), x.vh, pA x.sq, .map (some x.ru), x.vm, pA x.mm, x.vv, nU x.st]
abbrev doH (d : Nat) (x : Dx) (o : Opr) (it b6 b2 b3 : Nat) (S5 : List Nat) (q' : Sq) (p k : Nat) (E : List (Idn × Value)) : List Asn := itA it o.t p :: blkA b6 30 (iC ⟨o.id.c, k⟩) :: blkA b2 24 [pA d] :: blkA b3 55 (oC o) :: tabA :: dcH d { x with S5 := S5, q := q', E := E } []
theorem doesT_s (d : Nat) (x : Dx) (o : Opr) (g : Good o) (hk : o.k = 1) (ht : x.q.tr = true) (hq : x.q.Ok) (few : x.q.us.length + o.n ≤ 1000000) :
    DoS Tryz.prog 167 [pA d, oV o] (tabA :: dcH d x []) (fun r H => r = .bool (x.q.runs (oU o) o.n) ∧ ∃ S5 q' E, q'.toUs = x.q.run (oU o) o.n ∧ q'.tr = true ∧ H = dcH d { x with S5 := S5, q := q', E := E } []) := by
  intro m0 X hS
  obtain ⟨M0, hM0⟩ : ∃ M0, M0 = ofps (tabA :: dcH d x []) := ⟨_, rfl⟩
  rw [← hM0] at hS ⊢
  dsimp only [dcH] at hS
  refine FnE.enter ⟨_, Tryz.func167, by kernel_rfl, by kernel_rfl⟩ Tryz.func167 rfl rfl ?_
  refine go ?_
  refine RL.boxS hS rfl rfl rfl ?_; (try clear hS); intro b2 m hS; refine ⟨_, rfl, ?_⟩
  refine go ?_
  refine RL.boxS hS rfl rfl rfl ?_; (try clear hS); intro b3 m hS; refine ⟨_, rfl, ?_⟩
  refine go ?_
  refine RL.allocS T_ok rfl hS rfl rfl ?_; (try clear hS); intro b5 m hS; refine ⟨_, rfl, ?_⟩
  refine go ?_
  refine RL.ssM T_ok hS rfl rfl rfl rfl rfl (by rfl) (by rfl) (by with_reducible repeat (first | exact Rep.head | apply Rep.tail)) (by rfl) ?_; (try clear hS); intro m hS
  refine go ?_
  have hd : ((o.k : Int) == 1) = true := by rw [hk]; rfl
  rw [hd]
  refine goS ?_
  refine WP.drawJ [blkA b2 24 [pA d], blkA b3 55 (oC o), blkA b5 101 (uC (oU o)), tabA, dcD d x] hS (by repeat (first | exact AllIn.nil | refine AllIn.cons (by repeat (first | with_reducible exact zS .. | exact zS .. | with_reducible apply zO)) ?_)) (by kernel_rfl) ?_
  refine goS ?_
  refine RH.callU (fi := []) (ca := []) hS (olen_p o g) rfl (by kernel_rfl) rfl rfl rfl rfl rfl (by repeat (first | with_reducible exact Sels.nil | apply Sels.ro (by with_reducible repeat (first | exact zS .. | apply zO)) (by rfl) | apply Sels.own (by with_reducible repeat (first | exact Sel.head | apply Sel.tail)))) (by repeat (first | exact AllIn.nil | refine AllIn.cons (by repeat (first | with_reducible exact zS .. | exact zS .. | with_reducible apply zO)) ?_)) rfl (fun m hS => ?_)
  refine goS ?_
  refine RH.callS (fi := []) (ca := []) hS (run_s x.S5 x.sq o.n x.q (oU o) ht hq few) rfl (by kernel_rfl) rfl rfl rfl rfl rfl (by repeat (first | with_reducible exact Sels.nil | apply Sels.ro (by with_reducible repeat (first | exact zS .. | apply zO)) (by rfl) | apply Sels.own (by with_reducible repeat (first | exact Sel.head | apply Sel.tail)))) ?_
  clear hS
  rintro _ m _ ⟨rfl, S5, q', hq1, hq2, rfl⟩ hS
  simp only [zC, zN] at hS
  refine ⟨by simp only [zC, zN]; exact (by repeat (first | exact AllIn.nil | refine AllIn.cons (by repeat (first | with_reducible exact zS .. | exact zS .. | with_reducible apply zO)) ?_)), _, rfl, ?_⟩
  refine goS ?_
  cases hr : x.q.runs (oU o) o.n with
  | false =>
    refine go ?_
    refine QN.ret1 rfl rfl ⟨_, rfl, _, ⟨rfl, S5, q', x.E, hq1, hq2, rfl⟩, ?_⟩
    dsimp only [dcH]
    exact (hS.sels (by repeat (first | with_reducible exact Sels.nil | apply Sels.ro (by with_reducible repeat (first | exact zS .. | apply zO)) (by rfl) | apply Sels.own (by with_reducible repeat (first | exact Sel.head | apply Sel.tail))))).drop
  | true =>
    refine goS ?_
    refine RL.allocS T_ok rfl hS rfl rfl ?_; (try clear hS); intro b6 m hS; refine ⟨_, rfl, ?_⟩
    refine goS ?_
    refine RL.ssM T_ok hS rfl rfl rfl rfl rfl (by rfl) (by rfl) (by with_reducible repeat (first | exact Rep.head | apply Rep.tail)) (by rfl) ?_; (try clear hS); intro m hS
    refine goS ?_
    refine RL.rangeStr T_ok hS rfl rfl rfl ?_
    clear hS
    intro it m hS
    refine ⟨_, rfl, ?_⟩
    refine goS ?_
    have hS := (hS.sels (Pre := doH d x o it b6 b2 b3 S5 q' 0 o.id.k x.E) (by repeat (first | with_reducible exact Sels.nil | apply Sels.ro (by repeat (first | exact zS .. | with_reducible apply zO)) (by rfl) | apply Sels.own (by repeat (first | exact Sel.head | with_reducible apply Sel.tail))))).drop
    refine (WP.loop (X := Nat × Nat × List (Idn × Value)) (fun z => [(2, pA b2), (3, pA b3), (6, pA b6), (36, .pointer (some ⟨it, 0, none⟩))])
      (fun z m' => Tr m0 M0 X m' (doH d x o it b6 b2 b3 S5 q' z.1 z.2.1 z.2.2)) (fun z => o.t.length - z.1) (0, o.id.k, x.E) (Sub.C1 rfl (Sub.C1 rfl (Sub.C1 rfl (Sub.C1 rfl Sub.nil)))) hS ?_)
    clear hS
    rintro ⟨p, k, E⟩ m hS
    dsimp only at hS ⊢
    dsimp only [doH, dcH] at hS
    (with_reducible repeat (first | refine WP.S1 ?_ | refine WP.B1 ?_ | refine WP.R1 ?_))
    rcases Nat.lt_or_ge p o.t.length with hlt | hge
    · refine RL.nextStr hS rfl rfl hlt (by with_reducible repeat (first | exact Rep.head | apply Rep.tail)) rfl ?_
      clear hS
      intro m hS
      refine goS ?_
      refine WP.drawJ [blkA b2 24 [pA d], blkA b6 30 (iC ⟨o.id.c, k⟩), dcD d x] hS (by repeat (first | exact AllIn.nil | refine AllIn.cons (by repeat (first | with_reducible exact zS .. | exact zS .. | with_reducible apply zO)) ?_)) (by kernel_rfl) ?_
      refine goS ?_
      refine RH.one rfl (by kernel_rfl) rfl ?_
      refine RL.intStr T_ok rfl rfl rfl rfl rfl rfl ?_
      refine RL.N1 (RH.contM hS (by repeat (first | exact AllIn.nil | refine AllIn.cons (by repeat (first | with_reducible exact zS .. | exact zS .. | with_reducible apply zO)) ?_)) ?_)
      refine goS ?_
      refine RH.one rfl (by kernel_rfl) rfl ?_
      refine RL.mapUpdate (k := (⟨o.id.c, k⟩ : Idn)) (es := E) T_ok hS idK rfl rfl rfl rfl rfl rfl (by with_reducible repeat (first | exact zS .. | apply zO)) (by with_reducible repeat (first | exact Rep.head | apply Rep.tail)) rfl ?_
      clear hS
      intro m hS
      refine RL.N1 (RH.contM hS (by repeat (first | exact AllIn.nil | refine AllIn.cons (by repeat (first | with_reducible exact zS .. | exact zS .. | with_reducible apply zO)) ?_)) ?_)
      refine goS ?_
      obtain ⟨z, hz⟩ : ∃ z : Nat, IntKind.u64.wrap ((k : Int) + 1) = (z : Int) := ⟨(IntKind.u64.wrap ((k : Int) + 1)).toNat, by rw [wrap_u64]; omega⟩
      rw [hz]
      refine RL.storeM T_ok hS rfl rfl rfl rfl (by rfl) (by rfl) (by with_reducible repeat (first | exact Rep.head | apply Rep.tail)) (by rfl) ?_; (try clear hS); intro m hS
      refine go ?_
      have hpos := Lib.decode_width_pos (str o.t) p (by rw [str_sz]; exact hlt)
      refine QN.round (p + (Utf8.decode (str o.t) p).2, z, _) (Sub.C1 rfl (Sub.C1 rfl (Sub.C1 rfl (Sub.C1 rfl Sub.nil)))) (hS.sels (by repeat (first | with_reducible exact Sels.nil | apply Sels.ro (by repeat (first | exact zS .. | with_reducible apply zO)) (by rfl) | apply Sels.own (by repeat (first | exact Sel.head | with_reducible apply Sel.tail))))).drop (by dsimp only; omega)
    · refine RL.nextEnd hS rfl rfl hge (by with_reducible repeat (first | exact zS .. | apply zO)) rfl ?_
      refine go ?_
      refine WP.exit ?_
      (with_reducible repeat (first | refine QN.tx ?_ | refine QN.bx ?_ | refine QN.block_far rfl ?_ | refine QN.B1 ?_ | refine QN.N1 ?_))
      refine go ?_
      refine QN.ret1 rfl rfl ⟨_, rfl, _, ⟨rfl, S5, q', E, hq1, hq2, rfl⟩, ?_⟩
      exact hS.tail.tail.tail.tail.tail
end Go.Proofs.YtgpgladbdoimdaaGreatDoor
end
section
namespace Go.Proofs.YtgpgladbdoimdaaGreatDoor
open Go.ChangeShapes Go.WideShapes Go.ChangeAt Go.RowKit Go.Ev Go.Ids Go.SeqP
set_option maxRecDepth 20000
set_option maxHeartbeats 1000000
structure Lrn (x x' : Dx) (o : Opr) : Prop where
  k : ∀ c, kget x'.es c = if o.id.c = c then nU (o.id.k + o.n - 1) else kget x.es c
  q : x'.q.toUs = x.q.run (oU o) o.n
  tr : x'.q.tr = true
  B : x'.B = x.B + 1
  T : x'.T = x.T
  D : x'.D = x.D
  W : x'.W = x.W
  h : x'.h = x.h
  V : x'.V.length ≤ x.V.length + 1
  M : x'.M = x.M
theorem learn_s (d : Nat) (x : Dx) (o : Opr) (g : Good o) (hk : o.k = 1) (ht : x.q.tr = true) (hq : x.q.Ok) (few : x.q.us.length + o.n ≤ 1000000) (hB : x.B < 10000) (hV : x.V.length < 1000000) :
    DoS Tryz.prog 127 [pA d, oV o] (tabA :: dcH d x []) (fun _ H => ∃ x', Lrn x x' o ∧ H = dcH d x' []) := by
  intro m0 X hS
  obtain ⟨M0, hM0⟩ : ∃ M0, M0 = ofps (tabA :: dcH d x []) := ⟨_, rfl⟩
  rw [← hM0] at hS ⊢
  have hid := g.id
  simp only [Idn.right, num, Bool.and_eq_true, decide_eq_true_eq] at hid
  have htop := g.top
  have hn := g.n_pos
  dsimp only [dcH] at hS
  refine FnE.enter ⟨_, Tryz.func127, by kernel_rfl, by kernel_rfl⟩ Tryz.func127 rfl rfl ?_
  refine go ?_
  refine RL.boxS hS rfl rfl rfl ?_; (try clear hS); intro b3 m hS; refine ⟨_, rfl, ?_⟩
  refine goS ?_
  refine WP.drawJ [blkA b3 55 (oC o), tabA, dcD d x] hS (by repeat (first | exact AllIn.nil | refine AllIn.cons (by repeat (first | with_reducible exact zS .. | exact zS .. | with_reducible apply zO)) ?_)) (by kernel_rfl) ?_
  refine goS ?_
  refine RH.callS (fi := []) (ca := []) hS (add_s x.S1 x.s x.B hB o g) rfl (by kernel_rfl) rfl rfl rfl rfl rfl (by repeat (first | with_reducible exact Sels.nil | apply Sels.ro (by with_reducible repeat (first | exact zS .. | apply zO)) (by rfl) | apply Sels.own (by with_reducible repeat (first | exact Sel.head | apply Sel.tail)))) ?_
  clear hS
  rintro v m _ ⟨S1, rfl⟩ hS
  simp only [zC, zN] at hS
  refine ⟨by simp only [zC, zN]; exact (by repeat (first | exact AllIn.nil | refine AllIn.cons (by repeat (first | with_reducible exact zS .. | exact zS .. | with_reducible apply zO)) ?_)), _, rfl, ?_⟩
  refine goS ?_
  refine RL.callU (fi := []) (ca := []) hS (orange_p o g) rfl rfl rfl rfl (by repeat (first | with_reducible exact Sels.nil | apply Sels.ro (by with_reducible repeat (first | exact zS .. | apply zO)) (by rfl) | apply Sels.own (by with_reducible repeat (first | exact Sel.head | apply Sel.tail)))) rfl (fun m hS => ?_)
  refine goS ?_
  refine RL.allocS T_ok rfl hS rfl rfl ?_; (try clear hS); intro b4 m hS; refine ⟨_, rfl, ?_⟩
  refine goS ?_
  refine RL.ssM T_ok hS rfl rfl rfl rfl rfl (by rfl) (by rfl) (by with_reducible repeat (first | exact Rep.head | apply Rep.tail)) (by rfl) ?_; (try clear hS); intro m hS
  have hS : Tr m0 M0 X _ (blkA b4 167 (oRng o) :: stA S1 x.s (x.B + 1) :: blkA b3 55 (oC o) :: tabA :: dcD d x :: _) := hS
  refine go ?_
  have hw : IntKind.u64.wrap (((o.id.k + o.n : Nat) : Int) - 1) = ((o.id.k + o.n - 1 : Nat) : Int) := by rw [wrap_u64_in _ (by omega) (by omega)]; omega
  rw [hw]
  refine RH.mapUpdateF (k := o.id.c) (v := nU (o.id.k + o.n - 1)) T_ok hS u64K rfl (by kernel_rfl) rfl rfl rfl rfl rfl rfl rfl (by with_reducible repeat (first | exact zS .. | apply zO)) (by with_reducible repeat (first | exact Rep.head | apply Rep.tail)) rfl (by kernel_rfl) ?_
  clear hS
  intro m hS
  refine QN.calm ?_
  refine go ?_
  obtain ⟨z, hz⟩ : ∃ z : Nat, (if (o.st : Int) > (x.st : Int) then (o.st : Int) else (x.st : Int)) = (z : Int) := by
    split
    · exact ⟨_, rfl⟩
    · exact ⟨_, rfl⟩
  rw [hz]
  refine RH.one rfl (by kernel_rfl) rfl ?_
  refine RL.storeM T_ok hS rfl rfl rfl rfl (by rfl) (by rfl) (by with_reducible repeat (first | exact Rep.head | apply Rep.tail)) (by rfl) ?_; (try clear hS); intro m hS
  refine RL.N1 (RF.last (by kernel_rfl) (QN.calm ?_))
  refine goS ?_
  have hS := hS.sels (Pre := tabA :: dcH d { x with S1 := S1, B := x.B + 1, es := mset x.es o.id.c (nU (o.id.k + o.n - 1)), st := z } []) (by repeat (first | with_reducible exact Sels.nil | apply Sels.ro (by repeat (first | exact zS .. | with_reducible apply zO)) (by rfl) | apply Sels.own (by repeat (first | exact Sel.head | with_reducible apply Sel.tail))))
  refine RL.callM (fi := []) (ca := []) hS (doesT_s d { x with S1 := S1, B := x.B + 1, es := mset x.es o.id.c (nU (o.id.k + o.n - 1)), st := z } o g hk ht hq few) rfl rfl rfl rfl (Sels.front _ _) ?_
  clear hS
  rintro _ m _ ⟨rfl, S5, q', E, hq1, hq2, rfl⟩ hS
  simp only [dcH, zC, zN] at hS
  refine ⟨_, rfl, ?_⟩
  refine goS ?_
  have hL : ∀ (S7 : List Nat) (vv : Value) (V : List Rng), V.length ≤ x.V.length + 1 → Lrn x { x with S1 := S1, B := x.B + 1, es := mset x.es o.id.c (nU (o.id.k + o.n - 1)), st := z, S5 := S5, q := q', E := E, S7 := S7, vv := vv, V := V } o := fun S7 vv V hv =>
    ⟨fun c => by simp only [kget, mget_mset]; split <;> rfl, hq1, hq2, rfl, rfl, rfl, rfl, rfl, hv, rfl⟩
  have htab : tabA ∈ [blkA b4 167 (oRng o), blkA b3 55 (oC o), tabA] := by simp
  cases hr : x.q.runs (oU o) o.n with
  | true =>
    refine go ?_
    refine QN.end0 rfl ⟨_, rfl, _, ⟨_, hL x.S7 x.vv x.V (by omega), rfl⟩, ?_⟩
    dsimp only [dcH]
    exact (hS.sels (by repeat (first | with_reducible exact Sels.nil | apply Sels.ro (by repeat (first | exact zS .. | with_reducible apply zO)) (by rfl) | apply Sels.own (by repeat (first | exact Sel.head | with_reducible apply Sel.tail))))).drop
  | false =>
    refine go ?_
    refine RH.one rfl (by kernel_rfl) rfl ?_
    refine RL.buildSliceM T_ok hS [.tmp 41] (us := [.agg (oRng o).toArray]) (oRng o) rfl rfl rfl rfl rfl rfl (by intro u hu; simp only [List.mem_singleton] at hu; subst hu; rfl) rfl rfl rfl ?_
    clear hS
    intro b7 m hS
    refine ⟨_, rfl, ?_⟩
    refine RL.N1 (RH.contM hS (AllIn.of_sub (fun a ha => zO _ ha)) ?_)
    refine go ?_
    refine RH.callS (fi := []) (ca := []) hS (join_s x.S7 [b7] x.vv _ x.V [oR o] (by simp; omega)) rfl (by kernel_rfl) rfl rfl rfl rfl rfl (by repeat (first | with_reducible exact Sels.nil | apply Sels.ro (by repeat (first | exact zS .. | with_reducible apply zO)) (by rfl) | apply Sels.own (by repeat (first | exact Sel.head | with_reducible apply Sel.tail)))) ?_
    clear hS
    rintro v8 m _ ⟨S8, rfl⟩ hS
    simp only [zC, zN] at hS
    obtain ⟨A8, c8, rfl, _⟩ := Ev.Own.shape (show Ev.Own m S8 167 3 v8 _ _ from hS.head)
    refine ⟨by simp only [zC, zN]; exact (by repeat (first | exact AllIn.nil | refine AllIn.cons (by repeat (first | with_reducible exact zS .. | exact zS .. | with_reducible apply zO)) ?_)), _, rfl, ?_⟩
    refine go ?_
    refine RH.one rfl (by kernel_rfl) rfl ?_
    refine RL.storeM T_ok hS rfl rfl rfl rfl (by rfl) (by rfl) (by with_reducible repeat (first | exact Rep.head | apply Rep.tail)) (by rfl) ?_; (try clear hS); intro m hS
    refine RL.N1 (RF.last (by kernel_rfl) (QN.calm ?_))
    refine go ?_
    have hl : (join x.V [oR o]).length ≤ x.V.length + 1 := Nat.le_trans (clean_len _) (by simp)
    refine QN.end0 rfl ⟨_, rfl, _, ⟨_, hL S8 (.slice A8 (join x.V [oR o]).length c8) (join x.V [oR o]) hl, rfl⟩, ?_⟩
    dsimp only [dcH]
    exact (hS.sels (by repeat (first | with_reducible exact Sels.nil | apply Sels.ro (by repeat (first | exact zS .. | with_reducible apply zO)) (by rfl) | apply Sels.own (by repeat (first | exact Sel.head | with_reducible apply Sel.tail))))).drop
end Go.Proofs.YtgpgladbdoimdaaGreatDoor
end
section
namespace Go.Proofs.YtgpgladbdoimdaaGreatDoor
open Go.ChangeShapes Go.WideShapes Go.ChangeAt Go.RowKit Go.Ev Go.Ids Go.SeqP
set_option maxRecDepth 20000
set_option maxHeartbeats 1000000
abbrev wkH (b2 : Nat) (f : Bool) (b1 d : Nat) (x : Dx) (F : List Asn) : List Asn := blkA b2 4 [.bool f] :: blkA b1 24 [pA d] :: tabA :: dcH d x F
theorem rdNok (d bx : Nat) (L pre : List Opr) (x : Dx) (C A B : Asn) (F : List Asn) (hn : ∀ c, ∃ n, kget x.es c = nU n) (h1 : pre = [] → x.h = L.map oR)
    (h2 : ∀ o, L[pre.length]? = some o → x.W = [(o.id, oV o)] ∧ kget x.es o.id.c = nU (o.id.k - 1) ∧ ∀ i ∈ o.needs, ∃ n, kget x.es i.c = nU n ∧ i.k ≤ n) (h3 : L.length ≤ pre.length → x.W = []) :
    RdN d bx L pre (C :: blkA bx 24 [pA d] :: A :: B :: tabA :: dcH d x F) :=
  ⟨x.es, x.W, x.h, pA x.s, x.rk, x.vt, x.vd, x.rw, x.vh, pA x.sq, .map (some x.ru), x.vm, pA x.mm, x.vv, nU x.st, x.S4, ⟨by simp, by simp, by simp, by simp, by simp, by simp, hn⟩, h1, h2, h3⟩
theorem work_s (d : Nat) (x : Dx) (o : Opr) (g : Good o) (hk : o.k = 1) (ht : x.q.tr = true) (hq : x.q.Ok) (few : x.q.us.length + o.n ≤ 1000000) (hB : x.B < 10000) (hV : x.V.length < 1000000)
    (hn : ∀ c, ∃ n, kget x.es c = nU n) (hh : x.h = [oR o]) (hW : x.W = [(o.id, oV o)]) (hc : kget x.es o.id.c = nU (o.id.k - 1)) (hnd : ∀ i ∈ o.needs, ∃ n, kget x.es i.c = nU n ∧ i.k ≤ n) :
    DoS Tryz.prog 67 [pA d] (tabA :: dcH d x []) (fun _ H => ∃ x', Lrn { x with W := [], h := [] } x' o ∧ H = dcH d x' []) := by
  intro m0 X hS
  obtain ⟨M0, hM0⟩ : ∃ M0, M0 = ofps (tabA :: dcH d x []) := ⟨_, rfl⟩
  rw [← hM0] at hS ⊢
  refine FnE.enterM ⟨_, Tryz.func67, by kernel_rfl, by kernel_rfl⟩ Tryz.func67 rfl rfl ?_
  refine goS ?_
  refine RL.boxS hS rfl rfl rfl ?_; (try clear hS); intro b1 m hS; refine ⟨_, rfl, ?_⟩
  refine goS ?_
  refine RL.allocS T_ok rfl hS rfl rfl ?_; (try clear hS); intro b2 m hS; refine ⟨_, rfl, ?_⟩
  refine goS ?_
  refine RL.storeM T_ok hS rfl rfl rfl rfl (by rfl) (by rfl) (by with_reducible repeat (first | exact Rep.head | apply Rep.tail)) (by rfl) ?_; (try clear hS); intro m hS
  refine goS ?_
  refine (WP.loopD (X := Nat × Nat × Dx × List (Nat × Loop)) (fun z => [(1, pA b1), (2, pA z.2.1)]) (fun z => marks z.2.2.2)
    (fun z m' => (z.1 = 0 → z.2.2.1 = x) ∧ (1 ≤ z.1 → Lrn { x with W := [], h := [] } z.2.2.1 o) ∧ Tr m0 M0 X m' (wkH z.2.1 (decide (z.1 < 2)) b1 d z.2.2.1 (lps z.2.2.2))) (fun z => 2 - z.1) (0, b2, x, []) rfl
    (Sub.C1 rfl (Sub.C1 rfl Sub.nil)) ⟨fun _ => rfl, fun h => (by simp at h), hS⟩ ?_)
  clear hS
  rintro ⟨st, b2, y, Bs⟩ m ⟨h0, h1, hS⟩
  dsimp only at h0 h1 hS ⊢
  refine goS ?_
  rcases Nat.lt_or_ge st 2 with hlt | hge
  · have hd : decide (st < 2) = true := decide_eq_true hlt
    rw [hd] at hS ⊢
    refine goS ?_
    refine RL.storeM T_ok hS rfl rfl rfl rfl (by rfl) (by rfl) (by with_reducible repeat (first | exact Rep.head | apply Rep.tail)) (by rfl) ?_; (try clear hS); intro m hS
    refine goS ?_
    refine RL.callM (fi := []) (ca := []) hS (ready_s d) rfl rfl rfl rfl .nil ?_
    clear hS
    rintro _ m _ ⟨bx, rfl, rfl⟩ hS
    have hS : Tr m0 M0 X m (blkA bx 24 [pA d] :: wkH b2 false b1 d y (lps Bs)) := hS
    refine ⟨_, rfl, ?_⟩
    refine goS ?_
    rcases (show st = 0 ∨ st = 1 by omega) with rfl | rfl
    · obtain rfl := h0 rfl
      refine WP.rangeT (β := Nat) (fun o : Opr => [oV o]) rfl (ready1_one d bx o g) ⟨_, Tryz.func162, by kernel_rfl, by kernel_rfl⟩ hS
        (fun pre H => (pre = [] ∧ H = blkA bx 24 [pA d] :: wkH b2 false b1 d y (lps Bs)) ∨ (pre = [o] ∧ ∃ x', Lrn { y with W := [], h := [] } x' o ∧ H = blkA bx 24 [pA d] :: wkH b2 true b1 d x' (lps Bs))) (fun _ _ _ => False) (.inl ⟨rfl, rfl⟩) ?_ _ (fun _ => rfl) (fun _ => rfl)
        (fun o b => [(1, pA b1), (2, pA b2), (3, pA b)]) (fun o b G => G = [blkA b 55 (oC o)]) ?_ ?_ ?_ ?_
      · rintro pre H C (⟨rfl, rfl⟩ | ⟨rfl, x', hL, rfl⟩)
        · exact rdNok d bx [o] [] y C _ _ _ hn (fun _ => hh) (fun o' ho => by
            cases ho
            exact ⟨hW, hc, hnd⟩) (fun h => by simp at h)
        · exact rdNok d bx [o] [o] x' C _ _ _ (fun c => by
            rw [hL.k c]
            split
            · exact ⟨_, rfl⟩
            · exact hn c) (fun h => by simp at h) (fun o' ho => by simp at ho) (fun _ => hL.W)
      · intro l C pre x G m1 H1 _ _ hS
        refine goS ?_
        refine RL.allocS T_ok rfl hS rfl rfl ?_; (try clear hS); intro b m hS; refine ⟨_, rfl, ?_⟩
        refine goS ?_
        refine RL.ssM T_ok hS rfl rfl rfl rfl rfl (by rfl) (by rfl) (by with_reducible repeat (first | exact Rep.head | apply Rep.tail)) (by rfl) ?_; (try clear hS); intro m hS
        refine goS ?_
        exact QN.asgT b _ (Sub.C1 rfl (Sub.C1 rfl (Sub.C1 rfl Sub.nil))) hS rfl
      · rintro l C pre z b _ G m2 _ hI ⟨rfl, hz⟩ rfl hS
        have hz := hz.symm
        subst hz
        rcases hI with ⟨_, rfl⟩ | ⟨hh, _⟩
        · have hS := hS.mid
          simp only [zC, zN] at hS
          rw [hh, hW] at hS
          refine goS ?_
          refine go ?_
          refine RH.one rfl (by kernel_rfl) rfl ?_
          refine RL.delete (k := o.id) (es := [(o.id, oV o)]) T_ok hS idK rfl rfl rfl rfl rfl (by with_reducible repeat (first | exact zS .. | apply zO)) (by with_reducible repeat (first | exact Rep.head | apply Rep.tail)) rfl ?_
          clear hS
          intro m hS
          have hm : mdel [(o.id, oV o)] o.id = [] := by simp [mdel]
          rw [hm] at hS
          refine RL.N1 (RF.last (by kernel_rfl) (QN.calm ?_))
          refine goS ?_
          refine WP.drawL [blkA b 55 (oC o), blkA b1 24 [pA d], dcD d y, tabA] hS (by repeat (first | exact AllIn.nil | refine AllIn.cons (by repeat (first | with_reducible exact zS .. | exact zS .. | with_reducible apply zO)) ?_)) rfl (by kernel_rfl) ?_
          refine goS ?_
          refine RH.callU (fi := []) (ca := []) hS (orange_p o g) rfl (by kernel_rfl) rfl rfl rfl rfl rfl (by repeat (first | with_reducible exact Sels.nil | apply Sels.ro (by with_reducible repeat (first | exact zS .. | apply zO)) (by rfl) | apply Sels.own (by with_reducible repeat (first | exact Sel.head | apply Sel.tail)))) (by repeat (first | exact AllIn.nil | refine AllIn.cons (by repeat (first | with_reducible exact zS .. | exact zS .. | with_reducible apply zO)) ?_)) rfl (fun m hS => ?_)
          refine goS ?_
          refine RH.one rfl (by kernel_rfl) rfl ?_
          refine RL.buildSliceM T_ok hS [.tmp 20] (us := [.agg (oRng o).toArray]) (oRng o) rfl rfl rfl rfl rfl rfl (by intro u hu; simp only [List.mem_singleton] at hu; subst hu; rfl) rfl rfl rfl ?_
          clear hS
          intro b7 m hS
          refine ⟨_, rfl, ?_⟩
          refine RL.N1 (RH.contM hS (by repeat (first | exact AllIn.nil | refine AllIn.cons (by repeat (first | with_reducible exact zS .. | exact zS .. | with_reducible apply zO)) ?_)) ?_)
          refine goS ?_
          refine RH.callS (fi := []) (ca := []) hS (minus_s y.S4 [b7] y.vh _ [oR o] [oR o] (by simp) (by simp) (by simp)) rfl (by kernel_rfl) rfl rfl rfl rfl rfl (by repeat (first | with_reducible exact Sels.nil | apply Sels.ro (by repeat (first | exact zS .. | with_reducible apply zO)) (by rfl) | apply Sels.own (by repeat (first | exact Sel.head | with_reducible apply Sel.tail)))) ?_
          clear hS
          rintro v8 m _ ⟨S8, rfl⟩ hS
          simp only [zC, zN, minus_self] at hS
          obtain ⟨A8, c8, rfl, _⟩ := Ev.Own.shape (show Ev.Own m S8 167 3 v8 [].length ([].flatMap rC) from hS.head)
          refine ⟨by simp only [zC, zN]; exact (by repeat (first | exact AllIn.nil | refine AllIn.cons (by repeat (first | with_reducible exact zS .. | exact zS .. | with_reducible apply zO)) ?_)), _, rfl, ?_⟩
          refine goS ?_
          refine RH.one rfl (by kernel_rfl) rfl ?_
          refine RL.storeM T_ok hS rfl rfl rfl rfl (by rfl) (by rfl) (by with_reducible repeat (first | exact Rep.head | apply Rep.tail)) (by rfl) ?_; (try clear hS); intro m hS
          refine RL.N1 (RF.last (by kernel_rfl) (QN.calm ?_))
          refine goS ?_
          have hS := hS.sels (Pre := tabA :: dcH d { y with W := [], h := [], S4 := S8, vh := .slice A8 0 c8 } []) (by repeat (first | with_reducible exact Sels.nil | apply Sels.ro (by repeat (first | exact zS .. | with_reducible apply zO)) (by rfl) | apply Sels.own (by repeat (first | exact Sel.head | with_reducible apply Sel.tail))))
          refine RL.callM (fi := []) (ca := []) hS (learn_s d { y with W := [], h := [], S4 := S8, vh := .slice A8 0 c8 } o g hk ht hq few hB hV) rfl rfl rfl rfl (Sels.front _ _) ?_
          clear hS
          rintro _ m _ ⟨x', hL, rfl⟩ hS
          have hL' : Lrn { y with W := [], h := [] } x' o := ⟨hL.k, hL.q, hL.tr, hL.B, hL.T, hL.D, hL.W, hL.h, hL.V, hL.M⟩
          simp only [dcH, zC, zN] at hS
          refine ⟨_, rfl, ?_⟩
          refine goS ?_
          refine RL.storeM T_ok hS rfl rfl rfl rfl (by rfl) (by rfl) (by with_reducible repeat (first | exact Rep.head | apply Rep.tail)) (by rfl) ?_; (try clear hS); intro m hS
          refine goS ?_
          have hS := hS.sels (Pre := C :: blkA bx 24 [pA d] :: wkH b2 true b1 d x' []) (by repeat (first | with_reducible exact Sels.nil | apply Sels.ro (by repeat (first | exact zS .. | with_reducible apply zO)) (by rfl) | apply Sels.own (by repeat (first | exact Sel.head | with_reducible apply Sel.tail))))
          exact QN.roundT (H' := blkA bx 24 [pA d] :: wkH b2 true b1 d x' (lps Bs)) (tr_fix (T := [_, _, _, _]) (A := C :: blkA bx 24 [pA d] :: wkH b2 true b1 d x' []) hS) (.inr ⟨rfl, x', hL', rfl⟩)
        · cases hh
      · rintro B r xs m' _ rfl hI hS
        rcases hI with ⟨hh, _⟩ | ⟨_, x', hL, rfl⟩
        · cases hh
        · refine goS ?_
          refine RL.allocS T_ok rfl hS rfl rfl ?_; (try clear hS); intro b4 m hS; refine ⟨_, rfl, ?_⟩
          refine goS ?_
          refine RL.storeM T_ok hS rfl rfl rfl rfl (by rfl) (by rfl) (by with_reducible repeat (first | exact Rep.head | apply Rep.tail)) (by rfl) ?_; (try clear hS); intro m hS
          refine goS ?_
          have hS := hS.sels (Pre := blkA b4 4 [.bool true] :: blkA b1 24 [pA d] :: tabA :: dcH d x' [lpA B r]) (by repeat (first | with_reducible exact Sels.nil | apply Sels.ro (by repeat (first | exact zS .. | with_reducible apply zO)) (by rfl) | apply Sels.own (by repeat (first | exact Sel.head | with_reducible apply Sel.tail))))
          exact QN.roundD (1, b4, x', (B, r) :: Bs) rfl (Sub.C1 rfl (Sub.C1 rfl Sub.nil)) ⟨fun h => (by cases h), fun _ => hL, tr_fix0 (B := lps Bs) (T := [_, _, _]) hS⟩ (by dsimp only; omega)
      · exact fun _ _ _ _ _ _ h _ => h.elim
    · have hL := h1 (Nat.le_refl _)
      refine WP.rangeT (β := Nat) (fun o : Opr => [oV o]) rfl (ready1_nil d bx) ⟨_, Tryz.func162, by kernel_rfl, by kernel_rfl⟩ hS
        (fun pre H => pre = [] ∧ H = blkA bx 24 [pA d] :: wkH b2 false b1 d y (lps Bs)) (fun _ _ _ => False) ⟨rfl, rfl⟩ ?_ _ (fun _ => rfl) (fun _ => rfl)
        (fun o b => []) (fun o b G => True) ?_ ?_ ?_ ?_
      · rintro pre H C ⟨rfl, rfl⟩
        exact rdNok d bx [] [] y C _ _ _ (fun c => by
            rw [hL.k c]
            split
            · exact ⟨_, rfl⟩
            · exact hn c) (fun _ => hL.h) (fun o' ho => by simp at ho) (fun _ => hL.W)
      · exact fun _ _ _ _ _ _ _ _ h _ => h.elim
      · exact fun _ _ _ _ _ _ _ _ _ _ h _ _ => h.elim
      · rintro B r xs m' _ rfl ⟨_, rfl⟩ hS
        refine goS ?_
        refine RL.allocS T_ok rfl hS rfl rfl ?_; (try clear hS); intro b4 m hS; refine ⟨_, rfl, ?_⟩
        refine goS ?_
        refine RL.storeM T_ok hS rfl rfl rfl rfl (by rfl) (by rfl) (by with_reducible repeat (first | exact Rep.head | apply Rep.tail)) (by rfl) ?_; (try clear hS); intro m hS
        refine goS ?_
        have hS := hS.sels (Pre := blkA b4 4 [.bool false] :: blkA b1 24 [pA d] :: tabA :: dcH d y [lpA B r]) (by repeat (first | with_reducible exact Sels.nil | apply Sels.ro (by repeat (first | exact zS .. | with_reducible apply zO)) (by rfl) | apply Sels.own (by repeat (first | exact Sel.head | with_reducible apply Sel.tail))))
        exact QN.roundD (2, b4, y, (B, r) :: Bs) rfl (Sub.C1 rfl (Sub.C1 rfl Sub.nil)) ⟨fun h => (by cases h), fun _ => hL, tr_fix0 (B := lps Bs) (T := [_, _, _]) hS⟩ (by dsimp only; omega)
      · exact fun _ _ _ _ _ _ h _ => h.elim
  · have hd : decide (st < 2) = false := decide_eq_false (by omega)
    rw [hd] at hS ⊢
    refine goS ?_
    refine WP.exit ?_
    (with_reducible repeat (first | refine QN.tx ?_ | refine QN.bx ?_ | refine QN.B1 ?_ | refine QN.N1 ?_))
    refine QN.leaveTs (.inr rfl) (H := wkH b2 false b1 d y []) ?_ fun m' hS => ⟨Res.none rfl, _, rfl, _, ⟨y, h1 (by omega), rfl⟩, hS.tail.tail.tail⟩
    exact hS.perm (List.perm_append_comm (l₁ := wkH b2 false b1 d y []) (l₂ := lps Bs))
end Go.Proofs.YtgpgladbdoimdaaGreatDoor
end
section
namespace Go.Proofs.YtgpgladbdoimdaaGreatDoor
open Go.ChangeShapes Go.WideShapes Go.ChangeAt Go.RowKit Go.Ev Go.Ids Go.SeqP
set_option maxRecDepth 20000
set_option maxHeartbeats 1000000
theorem dtry1_ret (m : World) (b : Nat) : DfE Tryz.prog 120 [pA b] .returning m fun ed u' m' => ed = .returned (.tuple #[]) ∧ u' = .returning ∧ m' = m := by
  refine DfE.enter ⟨_, Tryz.func120, by kernel_rfl, by kernel_rfl⟩ Tryz.func120 rfl rfl rfl ?_
  (with_reducible repeat (first | refine WP.S1 ?_ | refine WP.B1 ?_ | refine WP.R1 ?_))
  refine RL.A1 T_ok rfl ?_
  refine RL.N1 ?_; (with_reducible repeat (first | refine QN.B1 ?_ | refine QN.N1 ?_ | refine WP.S1 ?_ | refine WP.B1 ?_ | refine WP.R1 ?_))
  refine WP.condT rfl ?_
  (with_reducible repeat (first | refine WP.S1 ?_ | refine WP.B1 ?_ | refine WP.R1 ?_))
  refine RL.A1 T_ok rfl ?_
  refine RL.N1 (QN.B1 ?_)
  exact QN.end0 rfl ⟨rfl, rfl, rfl⟩
abbrev upC (vo : Value) : List Value := [vo, .slice none 0 0]
theorem right_s (So : List Nat) (vo : Value) (o : Opr) (g : Good o) : DoS Tryz.prog 65 [.agg (upC vo).toArray] [tabA, opsA So vo [o]] (fun _ H => H = [opsA So vo [o]]) := by
  intro m0 X hS
  obtain ⟨M0, hM0⟩ : ∃ M0, M0 = ofps [tabA, opsA So vo [o]] := ⟨_, rfl⟩
  rw [← hM0] at hS ⊢
  obtain ⟨g8, c8, rfl, _, _, _⟩ := hS.ownAt (show ownA So 55 22 vo [o].length ([o].flatMap oC) ∈ _ from zO _ (zS ..)) (by simp)
  simp only [List.length_singleton] at hS ⊢
  refine FnE.enter ⟨_, Tryz.func65, by kernel_rfl, by kernel_rfl⟩ Tryz.func65 rfl rfl ?_
  refine goS ?_
  refine RL.boxS hS rfl rfl rfl ?_; (try clear hS); intro b1 m hS; refine ⟨_, rfl, ?_⟩
  refine goS ?_
  refine (WP.loop (X := Bool) (fun b => [(18, .slice (some ⟨g8, 0, none⟩) 1 c8), (19, .int .i64 1), (20, .int .i64 (if b then 1 else 0))])
    (fun b m' => Tr m0 M0 X m' (blkA b1 58 (upC (.slice (some ⟨g8, 0, none⟩) 1 c8)) :: [tabA, opsA So (.slice (some ⟨g8, 0, none⟩) 1 c8) [o]])) (fun b => if b then 0 else 1) false
    (Sub.C1 rfl (Sub.C1 rfl (Sub.C1 rfl Sub.nil))) hS ?_)
  clear hS
  rintro b m hS
  cases b with
  | true =>
    simp only [if_true] at hS ⊢
    refine goS ?_
    refine WP.exit ?_
    (with_reducible repeat (first | refine QN.tx ?_ | refine QN.bx ?_ | refine QN.B1 ?_ | refine QN.N1 ?_))
    exact QN.end0 rfl ⟨_, rfl, _, rfl, hS.tail.tail⟩
  | false =>
    simp only [if_false, Bool.false_eq_true] at hS ⊢
    have hsl := hS.ownSl (show ownA So 55 22 (.slice (some ⟨g8, 0, none⟩) 1 c8) [o].length ([o].flatMap oC) ∈ _ from zO _ (zO _ (zS ..)))
    refine goS ?_
    refine RL.indexAddr (k := 0) T_ok rfl rfl rfl rfl rfl rfl rfl (by omega) rfl ?_
    refine RL.ldEA T_ok oC (fun _ => rfl) hsl (show [o][0]? = some o from rfl) rfl rfl rfl rfl rfl ?_
    refine goS ?_
    refine RL.allocS T_ok rfl hS rfl rfl ?_; (try clear hS); intro b3 m hS; refine ⟨_, rfl, ?_⟩
    refine goS ?_
    refine RL.ssM T_ok hS rfl rfl rfl rfl rfl (by rfl) (by rfl) (by with_reducible repeat (first | exact Rep.head | apply Rep.tail)) (by rfl) ?_; (try clear hS); intro m hS
    refine goS ?_
    refine RL.callU (fi := []) (ca := []) hS (check_p o g) rfl rfl rfl rfl (by repeat (first | with_reducible exact Sels.nil | apply Sels.ro (by with_reducible repeat (first | exact zS .. | apply zO)) (by rfl) | apply Sels.own (by with_reducible repeat (first | exact Sel.head | apply Sel.tail)))) rfl (fun m hS => ?_)
    refine goS ?_
    exact QN.round true (Sub.C1 rfl (Sub.C1 rfl (Sub.C1 rfl Sub.nil))) hS.tail Nat.zero_lt_one
theorem apply1_s (b : Nat) (So : List Nat) (vo : Value) (o : Opr) (g : Good o) : DoS Tryz.prog 64 [pA b] [tabA, opsA So vo [o], blkA b 58 (upC vo)] (fun _ H => H = [opsA So vo [o], blkA b 58 (upC vo)]) := by
  intro m0 X hS
  refine FnE.enter ⟨_, Tryz.func64, by kernel_rfl, by kernel_rfl⟩ Tryz.func64 rfl rfl ?_
  refine goS ?_
  refine RL.callM (fi := []) (ca := []) hS (right_s So vo o g) rfl rfl rfl rfl (by repeat (first | with_reducible exact Sels.nil | apply Sels.ro (by with_reducible repeat (first | exact zS .. | apply zO)) (by rfl) | apply Sels.own (by with_reducible repeat (first | exact Sel.head | apply Sel.tail)))) ?_
  clear hS
  rintro _ m _ rfl hS
  simp only [zC, zN] at hS
  refine ⟨_, rfl, ?_⟩
  refine goS ?_
  exact QN.end0 rfl ⟨_, rfl, _, rfl, (hS.sels (Pre := [opsA So vo [o], blkA b 58 (upC vo)]) (by repeat (first | with_reducible exact Sels.nil | apply Sels.ro (by with_reducible repeat (first | exact zS .. | apply zO)) (by rfl) | apply Sels.own (by with_reducible repeat (first | exact Sel.head | apply Sel.tail))))).drop⟩
theorem dtry_s (b : Nat) (So : List Nat) (vo : Value) (o : Opr) (g : Good o) : DoS Tryz.prog 63 [.func (.func 64) #[] #[pA b]] [tabA, opsA So vo [o], blkA b 58 (upC vo)] (fun v H => v = .int .i64 0 ∧ H = [opsA So vo [o], blkA b 58 (upC vo)]) := by
  intro m0 X hS
  refine FnE.enterD ⟨_, Tryz.func63, by kernel_rfl, by kernel_rfl⟩ Tryz.func63 rfl rfl ?_
  refine goS ?_
  refine RL.allocS T_ok rfl hS rfl rfl ?_; (try clear hS); intro b2 m hS; refine ⟨_, rfl, ?_⟩
  refine goS ?_
  refine RL.defer rfl rfl rfl ?_
  refine goS ?_
  refine RL.callM (fi := []) (ca := [pA b]) hS (apply1_s b So vo o g) rfl rfl rfl rfl (by repeat (first | with_reducible exact Sels.nil | apply Sels.ro (by with_reducible repeat (first | exact zS .. | apply zO)) (by rfl) | apply Sels.own (by with_reducible repeat (first | exact Sel.head | apply Sel.tail)))) ?_
  clear hS
  rintro _ m _ rfl hS
  simp only [zC, zN] at hS
  refine ⟨_, rfl, ?_⟩
  refine goS ?_
  refine RL.storeM T_ok hS rfl rfl rfl rfl (by rfl) (by rfl) (by with_reducible repeat (first | exact Rep.head | apply Rep.tail)) (by rfl) ?_; (try clear hS); intro m hS
  refine goS ?_
  refine QN.leave (fi := []) (ca := [pA b2]) (.inl ⟨rfl, rfl⟩) rfl (dtry1_ret _ b2) ?_ ?_ ?_
  · rintro v u' m4 ⟨_, rfl, rfl⟩
    refine .inl ⟨rfl, .int .i64 0, Res.cell T_ok rfl rfl rfl ((hS.mem (A := blkA b2 67 [.int .i64 0]) (by simp)).cell 0 rfl), _, rfl, _, ⟨rfl, rfl⟩, (hS.sels (Pre := [opsA So vo [o], blkA b 58 (upC vo)]) (by repeat (first | with_reducible exact Sels.nil | apply Sels.ro (by with_reducible repeat (first | exact zS .. | apply zO)) (by rfl) | apply Sels.own (by with_reducible repeat (first | exact Sel.head | apply Sel.tail))))).drop⟩
  · rintro ch u' m4 ⟨h, _⟩; cases h
  · rintro u' m4 ⟨h, _⟩; cases h
theorem apply_s (d : Nat) (x : Dx) (So : List Nat) (vo : Value) (o : Opr) (g : Good o) (hk : o.k = 1) (ht : x.q.tr = true) (hq : x.q.Ok) (few : x.q.us.length + o.n ≤ 1000000) (hB : x.B < 10000) (hV : x.V.length < 1000000)
    (hn : ∀ c, ∃ n, kget x.es c = nU n) (hh : x.h = []) (hW : x.W = []) (hc : kget x.es o.id.c = nU (o.id.k - 1)) (hnd : ∀ i ∈ o.needs, ∃ n, kget x.es i.c = nU n ∧ i.k ≤ n) :
    DoS Tryz.prog 20 [pA d, .agg (upC vo).toArray] (tabA :: opsA So vo [o] :: dcH d x []) (fun r H => r = .tuple #[.bool true, .int .i64 0] ∧ ∃ x', Lrn x x' o.clean ∧ H = opsA So vo [o] :: dcH d x' []) := by
  intro m0 X hS
  obtain ⟨M0, hM0⟩ : ∃ M0, M0 = ofps (tabA :: opsA So vo [o] :: dcH d x []) := ⟨_, rfl⟩
  rw [← hM0] at hS ⊢
  obtain ⟨g8, c8, rfl, _, _, _⟩ := hS.ownAt (show ownA So 55 22 vo [o].length ([o].flatMap oC) ∈ _ from zO _ (zS ..)) (by simp)
  simp only [List.length_singleton] at hS ⊢
  refine FnE.enter ⟨_, Tryz.func20, by kernel_rfl, by kernel_rfl⟩ Tryz.func20 rfl rfl ?_
  refine goS ?_
  refine RL.boxS hS rfl rfl rfl ?_; (try clear hS); intro b3 m hS; refine ⟨_, rfl, ?_⟩
  refine goS ?_
  refine RL.callM (fi := []) (ca := []) hS (dtry_s b3 So _ o g) rfl rfl rfl rfl (by repeat (first | with_reducible exact Sels.nil | apply Sels.ro (by with_reducible repeat (first | exact zS .. | apply zO)) (by rfl) | apply Sels.own (by with_reducible repeat (first | exact Sel.head | apply Sel.tail)))) ?_
  clear hS
  rintro _ m _ ⟨rfl, rfl⟩ hS
  simp only [zC, zN] at hS
  refine ⟨_, rfl, ?_⟩
  refine goS ?_
  refine (WP.loop (X := Bool × Dx) (fun z => [(0, pA d), (3, pA b3), (7, .bool z.1), (17, .slice (some ⟨g8, 0, none⟩) 1 c8), (18, .int .i64 1), (19, .int .i64 (if z.1 then 1 else 0))])
    (fun z m' => (z.1 = false → z.2 = x) ∧ (z.1 = true → ∃ S4 vh, z.2 = { x with W := [(o.id, oV o.clean)], S4 := S4, vh := vh, h := [oR o] }) ∧ Tr m0 M0 X m' (opsA So (.slice (some ⟨g8, 0, none⟩) 1 c8) [o] :: blkA b3 58 (upC (.slice (some ⟨g8, 0, none⟩) 1 c8)) :: tabA :: dcH d z.2 [])) (fun z => if z.1 then 0 else 1) (false, x)
    (Sub.C1 rfl (Sub.C1 rfl (Sub.C1 rfl (Sub.C1 rfl (Sub.C1 rfl (Sub.C1 rfl Sub.nil)))))) ⟨fun _ => rfl, fun h => (by cases h), hS⟩ ?_)
  clear hS
  rintro ⟨b, y⟩ m ⟨h0, h1, hS⟩
  dsimp only at h0 h1 hS ⊢
  cases b with
  | true =>
    obtain ⟨S4, vh, rfl⟩ := h1 rfl
    simp only [if_true] at hS ⊢
    refine goS ?_
    refine WP.exit ?_
    (with_reducible repeat (first | refine QN.tx ?_ | refine QN.bx ?_ | refine QN.B1 ?_ | refine QN.N1 ?_))
    refine goS ?_
    refine RL.callM (fi := []) (ca := []) hS (work_s d { x with W := [(o.id, oV o.clean)], S4 := S4, vh := vh, h := [oR o] } o.clean g.clean hk ht hq few hB hV hn rfl rfl hc hnd) rfl rfl rfl rfl (by repeat (first | with_reducible exact Sels.nil | apply Sels.ro (by with_reducible repeat (first | exact zS .. | apply zO)) (by rfl) | apply Sels.own (by with_reducible repeat (first | exact Sel.head | apply Sel.tail)))) ?_
    clear hS
    rintro _ m _ ⟨x', hL, rfl⟩ hS
    have hL' : Lrn x x' o.clean := ⟨hL.k, hL.q, hL.tr, hL.B, hL.T, hL.D, hL.W.trans hW.symm, hL.h.trans hh.symm, hL.V, hL.M⟩
    simp only [dcH, zC, zN] at hS
    refine ⟨_, rfl, ?_⟩
    refine goS ?_
    refine QN.ret2 rfl rfl rfl ⟨_, rfl, _, ⟨rfl, x', hL', rfl⟩, ?_⟩
    dsimp only [dcH]
    exact (hS.sels (by repeat (first | with_reducible exact Sels.nil | apply Sels.ro (by with_reducible repeat (first | exact zS .. | apply zO)) (by rfl) | apply Sels.own (by with_reducible repeat (first | exact Sel.head | apply Sel.tail))))).drop
  | false =>
    obtain rfl := h0 rfl
    simp only [if_false, Bool.false_eq_true] at hS ⊢
    have hsl := hS.ownSl (show ownA So 55 22 (.slice (some ⟨g8, 0, none⟩) 1 c8) [o].length ([o].flatMap oC) ∈ _ from zS ..)
    refine goS ?_
    refine RL.indexAddr (k := 0) T_ok rfl rfl rfl rfl rfl rfl rfl (by omega) rfl ?_
    refine RL.ldEA T_ok oC (fun _ => rfl) hsl (show [o][0]? = some o from rfl) rfl rfl rfl rfl rfl ?_
    refine goS ?_
    refine RL.allocS T_ok rfl hS rfl rfl ?_; (try clear hS); intro b9 m hS; refine ⟨_, rfl, ?_⟩
    refine goS ?_
    refine RL.ssM T_ok hS rfl rfl rfl rfl rfl (by rfl) (by rfl) (by with_reducible repeat (first | exact Rep.head | apply Rep.tail)) (by rfl) ?_; (try clear hS); intro m hS
    refine goS ?_
    refine RL.callM (fi := []) (ca := []) hS (hold_s d y o g hc hW hh) rfl rfl rfl rfl (by repeat (first | with_reducible exact Sels.nil | apply Sels.ro (by with_reducible repeat (first | exact zS .. | apply zO)) (by rfl) | apply Sels.own (by with_reducible repeat (first | exact Sel.head | apply Sel.tail)))) ?_
    clear hS
    rintro _ m _ ⟨rfl, S4, vh, rfl⟩ hS
    simp only [dcH, zC, zN] at hS
    refine ⟨_, rfl, ?_⟩
    refine goS ?_
    refine QN.round (true, { y with W := [(o.id, oV o.clean)], S4 := S4, vh := vh, h := [oR o] }) (Sub.C1 rfl (Sub.C1 rfl (Sub.C1 rfl (Sub.C1 rfl (Sub.C1 rfl (Sub.C1 rfl Sub.nil)))))) ⟨fun h => (by cases h), fun _ => ⟨S4, vh, rfl⟩, ?_⟩ Nat.zero_lt_one
    dsimp only [dcH]
    exact (hS.sels (by repeat (first | with_reducible exact Sels.nil | apply Sels.ro (by repeat (first | exact zS .. | with_reducible apply zO)) (by rfl) | apply Sels.own (by repeat (first | exact Sel.head | with_reducible apply Sel.tail))))).drop
end Go.Proofs.YtgpgladbdoimdaaGreatDoor
end
