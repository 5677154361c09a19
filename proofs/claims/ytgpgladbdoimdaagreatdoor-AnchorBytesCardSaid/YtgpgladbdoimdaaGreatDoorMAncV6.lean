/- Texts that belong together. -/
import Derived.Test.YtgpgladbdoimdaaGreatDoorMAncV5
section
namespace Go.Proofs.YtgpgladbdoimdaaGreatDoor
open Go.ChangeShapes Go.WideShapes Go.ChangeAt Go.RowKit Go.Ev Go.Ids Go.SeqP
set_option maxRecDepth 20000
set_option maxHeartbeats 2000000
theorem Sq.more_allE {q : Sq} {y : Un} {bs : List Nat} {b : Nat} (hl : q.ad.length = q.us.length) (hn : (q.puts y bs.length).idx (Us.nx y bs.length).id = none) : mset (q.more y bs).allE (Us.nx y bs.length).id (pA b) = (q.more y (bs ++ [b])).allE := by
  have hlen : (q.puts y bs.length).us.length = (q.ad ++ bs).length := by rw [Us.puts_len, List.length_append, hl]
  rw [mset_new]
  · simp only [Sq.allE, Sq.more, List.length_append, List.length_singleton]
    show _ = List.map _ ((((q.puts y bs.length).us ++ [Us.nx y bs.length])).zip _)
    rw [← List.append_assoc, List.zip_append hlen]
    simp
  · intro hh
    simp only [Sq.allE, List.map_map] at hh
    obtain ⟨z, hz, e⟩ := List.mem_map.1 hh
    exact Us.idx_none.1 hn (List.mem_map.2 ⟨z.1, (List.of_mem_zip hz).1, e⟩)
theorem nx_succ {x : Un} (j : Nat) : Us.nx (Us.nx x 1) j = Us.nx x (j + 1) := by
  cases j with
  | zero => rfl
  | succ j => simp [Us.nx]; omega
structure ChI (q : Sq) (l more : Nat) (Nb M : List Nd) (bs : List Nat) (cur z : Nat) (d : Nd) : Prop where
  le : bs.length ≤ more
  c : Chn q l (Us.nx (q.u l) 1) more bs Nb M
  hz : z = if bs = [] then l else Nb.length + bs.length - 1
  hd : M[z]? = some d
  a : d.a = cur
  cur : cur = if bs = [] then q.a l else bs.getD (bs.length - 1) 0
  u : d.u = Us.nx (q.u l) bs.length
theorem ChI.step {q : Sq} {l more cur z b : Nat} {Nb M : List Nd} {bs : List Nat} {d : Nd} {R rn rn' : Rw} (h : ChI q l more Nb M bs cur z d) (hl : l < Nb.length) (hlt : bs.length < more) (hR : R.xs = [b]) (h1 : rn.xs = []) (h2 : rn'.xs = []) :
    ChI q l more Nb (M.set z { d with rr := R } ++ [⟨b, Us.nx (q.u l) (bs.length + 1), some cur, more - bs.length, rn, rn'⟩]) (bs ++ [b]) b (Nb.length + bs.length) ⟨b, Us.nx (q.u l) (bs.length + 1), some cur, more - bs.length, rn, rn'⟩ where
  le := by simp; omega
  c := by
    have := h.c.step hl h.hz h.hd (h.a.trans h.cur) hR h1 h2
    rw [nx_succ, h.a] at this
    have e : ({ d with rr := R } : Nd) = { a := cur, u := d.u, p := d.p, sz := d.sz, rl := d.rl, rr := R } := by rw [← h.a]
    rw [e]; exact this
  hz := by simp
  hd := by
    have hlen : (M.set z { d with rr := R }).length = Nb.length + bs.length := by rw [List.length_set, h.c.len]
    rw [List.getElem?_append_right (by omega), hlen, Nat.sub_self]; rfl
  a := rfl
  cur := by simp [List.getD_eq_getElem?_getD]
  u := by simp
theorem chain_s (S : List Nat) (s l more : Nat) (q : Sq) (sd : Bool) (pp : Option Nat) (ht : q.tr = true) (hq : q.Ok) (hm : 0 < more) (hr : q.Runs (Us.nx (q.u l) 1) more) (hl : q.idx (q.u l).id = some l) (hA : Fo.At q.F none false l pp sd .nil .nil) (hrr : q.idx (q.u l).r ≠ some l) (few : q.us.length + more ≤ 1000000) :
    DoS Tryz.prog 230 [pA s, pA (q.a l), .int .i64 more] [seqA S s q] (fun _ H => ∃ S' bs, bs.length = more ∧ H = [seqA S' s (q.more (Us.nx (q.u l) 1) bs)]) := by
  intro m0 X hS
  obtain ⟨ra, rt, fr, at_, ord, ro, N, k, hS⟩ := seq_open hS
  have hll := (Us.idx_some hl).1
  obtain ⟨d, d1, d2, d3, d4, d5, d6, d7, d8⟩ := k.node ht hll hA
  have hN : blkA (q.a l) 178 (nC (q.u l) d.p d.rl.v d.rr.v d.sz) ∈ ndL N ++ [] := by rw [← d4, ← d3]; exact List.mem_append_left _ (mem_ndL d2).1
  refine FnE.enter ⟨_, Tryz.func230, by kernel_rfl, by kernel_rfl⟩ Tryz.func230 rfl rfl ?_
  refine go ?_
  clear hN
  obtain ⟨S1, hS⟩ := seq_close k hS
  refine RL.callM (fi := []) (ca := []) hS (find_s S1 s q (q.u l).id) rfl rfl rfl rfl (by repeat (first | with_reducible exact Sels.nil | apply Sels.ro (by with_reducible repeat (first | exact zS .. | apply zO)) (by rfl) | apply Sels.own (by with_reducible repeat (first | exact Sel.head | apply Sel.tail)))) ?_
  clear hS k d1 d2 d3 d4 d5 d6 d7 d8
  rintro _ m _ ⟨rfl, S2, rfl⟩ hS
  simp only [zC, zN] at hS
  refine ⟨_, rfl, ?_⟩
  have hf : q.find (q.u l).id = q.place l := by simp [Us.find, hl]
  have pl1 := hq.place_lt hll
  have hw0 : IntKind.i64.wrap ((q.place l : Int) + 1) = ((q.place l + 1 : Nat) : Int) := by rw [wrap_i64_in _ (by omega) (by omega)]; omega
  rw [hf]
  refine go ?_
  rw [hw0]
  obtain ⟨ra, rt, fr, at_, ord, ro, N, k, hS⟩ := seq_open hS
  have hxs : ord.xs.length = q.us.length := by rw [k.o, List.length_map, hq.flen]
  have hNl : N.length = q.us.length := by rw [← k.l.us, List.length_map]
  have had := k.adl
  obtain ⟨M0, hM0⟩ : ∃ M0, M0 = ofps [seqA S s q] := ⟨_, rfl⟩
  rw [← hM0] at hS ⊢
  refine (WP.loopX (X := Option Nat) (fun i => [(0, pA s), (1, pA (q.a l)), (2, .int .i64 more), (6, .int .i64 (q.place l + 1 : Nat)), (7, pO (i.map q.a))])
    (fun i m' => ∃ pre, Fo.path [] q.F l = pre ++ (match i with | none => [] | some t => Fo.path [] q.F t) ∧ (∀ t, i = some t → t ∈ q.F.flat) ∧ Tr m0 M0 X m' (sqH q s ra rt fr at_ ord ro (bump N pre more) []))
    (fun i m' => i = none ∧ Tr m0 M0 X m' (sqH q s ra rt fr at_ ord ro (bump N (Fo.path [] q.F l) more) []))
    (fun i => match i with | none => 0 | some t => (Fo.path [] q.F t).length) (some l) 0 (Sub.C1 rfl (Sub.C1 rfl (Sub.C1 rfl (Sub.C1 rfl (Sub.C1 rfl Sub.nil))))) ⟨[], rfl, fun t e => by cases e; exact hA.mem.1, by rw [bump_nil]; exact hS⟩ ?_ ?_)
  · clear hS
    rintro i m ⟨pre, hup, hi, hS⟩
    cases i with
    | none =>
      refine go ?_
      refine WP.exit (QN.tx (QN.tx (QN.exitJ none (Sub.C1 rfl (Sub.C1 rfl (Sub.C1 rfl (Sub.C1 rfl (Sub.C1 rfl Sub.nil))))) ⟨rfl, ?_⟩)))
      rw [hup, List.append_nil]; exact hS
    | some t =>
      have hm' := hi t rfl
      have hup : Fo.path [] q.F l = pre ++ Fo.path [] q.F t := hup
      have htl := (hq.mem t).1 hm'
      obtain ⟨pp, ss, fa, fb, hA⟩ := Fo.At.of_mem none false hm'
      obtain ⟨d, d1, d2, d3, d4, d5, d6, d7, d8⟩ := k.node ht htl hA
      obtain ⟨t', p1, p2, p3⟩ := hA.path (up := []) hq.nd (by simp)
      have hupn : (Fo.path [] q.F l).Nodup := path_nodup List.nodup_nil (by simp) hq.nd
      have htp : t ∉ pre := fun hh => by
        rw [hup, p1] at hupn
        exact (List.nodup_append.1 hupn).2.2 t hh t (zS ..) rfl
      have hget : (bump N pre more)[t]? = some d := by rw [bump_get, d1]; simp [htp]
      have hN2 : blkA (q.a t) 178 (nC d.u d.p d.rl.v d.rr.v d.sz) ∈ ndL (bump N pre more) ++ [] := by rw [← d3]; exact List.mem_append_left _ (mem_ndL (List.mem_of_getElem? hget)).1
      obtain ⟨pl1, pl2⟩ := hq.place_at hA
      have hw : IntKind.i64.wrap ((d.sz : Int) + (more : Int)) = ((d.sz + more : Nat) : Int) := by rw [wrap_i64_in _ (by omega) (by omega)]; omega
      refine go ?_
      rw [hw]
      refine RL.storeM T_ok hS rfl rfl rfl rfl rfl rfl (rep_sz hget d3 more) rfl ?_
      clear hS hN2
      intro m hS
      rw [bump_set (c := more) d1 htp] at hS
      have hget2 : (bump N (pre ++ [t]) more)[t]? = some { d with sz := d.sz + more } := by rw [bump_get, d1]; simp
      have hN2 : blkA (q.a t) 178 (nC d.u d.p d.rl.v d.rr.v (d.sz + more)) ∈ ndL (bump N (pre ++ [t]) more) ++ [] := by rw [← d3]; exact List.mem_append_left _ (mem_ndL (List.mem_of_getElem? hget2)).1
      refine go ?_
      rw [d5]
      refine QN.round pp (Sub.C1 rfl (Sub.C1 rfl (Sub.C1 rfl (Sub.C1 rfl (Sub.C1 rfl Sub.nil))))) ⟨pre ++ [t], ?_, ?_, hS⟩ ?_
      · rcases p3 with rfl | ⟨q', rfl, p4, _⟩
        · simp only [List.head?_nil] at p2; subst p2; rw [hup, p1]; simp
        · rw [hup, p1, ← p4]; simp
      · rintro t2 rfl
        rcases p3 with rfl | ⟨q', h9, _, p5⟩
        · cases p2
        · cases h9; exact p5
      · rcases p3 with rfl | ⟨q', rfl, p4, _⟩
        · simp only [List.head?_nil] at p2; subst p2; show 0 < (Fo.path [] q.F t).length; rw [p1]; simp
        · show (Fo.path [] q.F q').length < (Fo.path [] q.F t).length; rw [p1, p4]; simp
  · clear hS
    rintro _ m ⟨rfl, hS⟩
    refine QN.bx ?_
    obtain ⟨Nb, hNb⟩ : ∃ Nb, bump N (Fo.path [] q.F l) more = Nb := ⟨_, rfl⟩
    rw [hNb] at hS
    have hNbl : Nb.length = q.us.length := by rw [← hNb, bump_len, hNl]
    obtain ⟨d, d1, d2, d3, d4, d5, d6, d7, d8⟩ := k.node ht hll hA
    have hget : ∃ d0, Nb[l]? = some d0 ∧ d0.a = q.a l ∧ d0.u = q.u l := by
      rw [← hNb, bump_get, d1]
      simp only [Option.map_some]
      split
      · exact ⟨_, rfl, d3, d4⟩
      · exact ⟨_, rfl, d3, d4⟩
    obtain ⟨d0, e1, e2, e3⟩ := hget
    refine go ?_
    have hS := hS.empty 176 1 none
    have hall0 : (q.more (Us.nx (q.u l) 1) []).allE = q.allE := by simp [Sq.allE, Sq.more, Us.puts]
    refine (WP.loopX (X := List Nat × Nat × Value) (fun x => [(0, pA s), (1, pA x.2.1), (6, .int .i64 (q.place l + 1 : Nat)), (8, x.2.2), (9, .int .i64 (more - x.1.length : Nat))])
      (fun x m' => ∃ M z d S8, ChI q l more Nb M x.1 x.2.1 z d ∧ Tr m0 M0 X m' (ownA S8 176 1 x.2.2 x.1.length (x.1.map pA) :: sqH (q.more (Us.nx (q.u l) 1) x.1) s ra rt fr at_ ord ro M []))
      (fun x m' => x.1.length = more ∧ ∃ M z d S8, ChI q l more Nb M x.1 x.2.1 z d ∧ Tr m0 M0 X m' (ownA S8 176 1 x.2.2 x.1.length (x.1.map pA) :: sqH (q.more (Us.nx (q.u l) 1) x.1) s ra rt fr at_ ord ro M []))
      (fun x => more - x.1.length) ([], q.a l, .slice none 0 0) 2 (Sub.C1 rfl (Sub.C1 rfl (Sub.C1 rfl (Sub.C1 rfl (Sub.C1 rfl Sub.nil))))) ⟨Nb, l, d0, [], ⟨Nat.zero_le _, Chn.start, rfl, e1, e2, rfl, e3⟩, by show Tr m0 M0 X m (ownA [] 176 1 (.slice none 0 0) 0 [] :: sqH (q.more (Us.nx (q.u l) 1) []) s ra rt fr at_ ord ro Nb []); unfold sqH; rw [hall0]; exact hS⟩ ?_ ?_)
    · clear hS
      rintro ⟨bs, cur, v8⟩ m ⟨M, z, d, S8, c, hS⟩
      dsimp only at c hS ⊢
      rcases Nat.eq_or_lt_of_le c.le with hjl | hjl
      · have hd0 : decide (((more - bs.length : Nat) : Int) > 0) = false := decide_eq_false (by omega)
        refine go ?_
        rw [hd0]
        refine go ?_
        exact WP.exit (QN.tx (QN.tx (QN.exitJ (bs, cur, v8) (Sub.C1 rfl (Sub.C1 rfl (Sub.C1 rfl (Sub.C1 rfl (Sub.C1 rfl Sub.nil))))) ⟨hjl, M, z, d, S8, c, hS⟩)))
      · have hd0 : decide (((more - bs.length : Nat) : Int) > 0) = true := decide_eq_true (by omega)
        have htop := hr.top
        have hkk : (Us.nx (q.u l) 1).id = ⟨(q.u l).id.c, (q.u l).id.k + 1⟩ := by simp [Us.nx]
        rw [hkk] at htop
        simp only at htop
        have hid : d.u.id = ⟨(q.u l).id.c, (q.u l).id.k + bs.length⟩ := by rw [c.u, Us.nx_id]
        have hrd : d.u.r = (q.u l).r := by rw [c.u]; unfold Us.nx; split <;> rfl
        have hw : IntKind.u64.wrap ((((q.u l).id.k + bs.length : Nat) : Int) + 1) = (((q.u l).id.k + (bs.length + 1) : Nat) : Int) := by rw [wrap_u64_in _ (by omega) (by omega)]; omega
        have hN : blkA cur 178 (nC d.u d.p d.rl.v d.rr.v d.sz) ∈ ndL M ++ [] := by rw [← c.a]; exact List.mem_append_left _ (mem_ndL (List.mem_of_getElem? c.hd)).1
        refine go ?_
        rw [hd0]
        refine go ?_
        refine RH.one rfl (by kernel_rfl) rfl ?_
        refine RL.boxS hS rfl rfl rfl ?_
        clear hS hN
        intro b m hS
        refine ⟨_, rfl, ?_⟩
        refine RL.N1 (RH.contM hS (.more _ (AllIn.self _)) ?_)
        have eb : [Value.int .u64 d.u.id.c, .int .u64 (IntKind.u64.wrap ((d.u.id.k : Int) + 1)), .int .u64 d.u.id.c, .int .u64 d.u.id.k, .int .u64 d.u.r.c, .int .u64 d.u.r.k, pA cur, .slice none 0 0, .slice none 0 0, .int .i64 (more - bs.length : Nat)] = nC (Us.nx (q.u l) (bs.length + 1)) (some cur) (.slice none 0 0) (.slice none 0 0) (more - bs.length) := by
          rw [hid, hrd]
          simp only [hw]
          simp only [nC, Us.nx, if_neg (Nat.succ_ne_zero _)]
          rfl
        have hS : Tr m0 M0 X m (blkA b 178 (nC (Us.nx (q.u l) (bs.length + 1)) (some cur) (.slice none 0 0) (.slice none 0 0) (more - bs.length)) :: ownA S8 176 1 v8 bs.length (bs.map pA) :: sqH (q.more (Us.nx (q.u l) 1) bs) s ra rt fr at_ ord ro M []) := by rw [← eb]; exact hS
        refine go ?_
        refine RL.buildSliceM T_ok hS [.tmp 69] [pA b] rfl rfl rfl rfl rfl rfl (by intro u hu; simp only [List.mem_singleton] at hu; subst hu; rfl) rfl rfl rfl ?_
        clear hS
        intro b' m hS
        refine ⟨_, rfl, ?_⟩
        have eA : d.A = blkA cur 178 (nC d.u d.p d.rl.v d.rr.v d.sz) := by rw [Nd.A, c.a]
        have hS : Tr m0 M0 X m ([ownA [b'] 176 1 (.slice (some ⟨b', 0, none⟩) 1 1) 1 [pA b], blkA b 178 (nC (Us.nx (q.u l) (bs.length + 1)) (some cur) (.slice none 0 0) (.slice none 0 0) (more - bs.length)), ownA S8 176 1 v8 bs.length (bs.map pA)] ++ (blkA cur 178 (nC d.u d.p d.rl.v d.rr.v d.sz) :: d.rl.A :: d.rr.A :: sqH (q.more (Us.nx (q.u l) 1) bs) s ra rt fr at_ ord ro (M.eraseIdx z) [])) := by rw [← eA]; exact hS.perm ((sqH_focus c.hd).append_left [_, _, _])
        simp only [zC, zN] at hS
        refine go ?_
        refine RL.storeM T_ok hS rfl rfl rfl rfl (by rfl) (by rfl) (by with_reducible repeat (first | exact Rep.head | apply Rep.tail)) (by rfl) ?_; (try clear hS); intro m hS
        have hS := hS.sels (Pre := [d.rr.A, ownA S8 176 1 v8 bs.length (bs.map pA), blkA b 178 (nC (Us.nx (q.u l) (bs.length + 1)) (some cur) (.slice none 0 0) (.slice none 0 0) (more - bs.length)), blkA cur 178 (nC d.u d.p d.rl.v (.slice (some ⟨b', 0, none⟩) 1 1) d.sz), d.rl.A, ownA [b'] 176 1 (.slice (some ⟨b', 0, none⟩) 1 1) 1 [pA b]]) (F := sqH (q.more (Us.nx (q.u l) 1) bs) s ra rt fr at_ ord ro (M.eraseIdx z) []) (by repeat (first | with_reducible exact Sels.nil | apply Sels.ro (by repeat (first | exact zS .. | with_reducible apply zO)) (by rfl) | apply Sels.own (by repeat (first | exact Sel.head | with_reducible apply Sel.tail))))
        have hS := hS.tail
        have eA' : Nd.A { d with rr := ⟨[b'], .slice (some ⟨b', 0, none⟩) 1 1, [b]⟩ } = blkA cur 178 (nC d.u d.p d.rl.v (.slice (some ⟨b', 0, none⟩) 1 1) d.sz) := by simp only [Nd.A, c.a]
        obtain ⟨R, hR⟩ : ∃ R : Rw, R = ⟨[b'], .slice (some ⟨b', 0, none⟩) 1 1, [b]⟩ := ⟨_, rfl⟩
        have hS : Tr m0 M0 X m (ownA S8 176 1 v8 bs.length (bs.map pA) :: blkA b 178 (nC (Us.nx (q.u l) (bs.length + 1)) (some cur) (.slice none 0 0) (.slice none 0 0) (more - bs.length)) :: sqH (q.more (Us.nx (q.u l) 1) bs) s ra rt fr at_ ord ro (M.set z { d with rr := R }) []) := by
          refine Tr.perm ?_ ((sqH_set { d with rr := R } c.hd).append_left [_, _])
          rw [hR, eA']; exact hS
        have hstep := c.step (b := b) (R := R) (rn := ⟨[], .slice none 0 0, []⟩) (rn' := ⟨[], .slice none 0 0, []⟩) (by omega) hjl (by rw [hR]) rfl rfl
        have hnew : (q.puts (Us.nx (q.u l) 1) bs.length).idx (Us.nx (Us.nx (q.u l) 1) bs.length).id = none := Us.puts_idx_new hr.new hjl
        have hallE := Sq.more_allE (b := b) had hnew
        rw [nx_succ] at hallE
        refine go ?_
        refine RH.mapUpdateF (k := (Us.nx (q.u l) (bs.length + 1)).id) (v := pA b) T_ok hS idK rfl (by kernel_rfl) rfl rfl rfl rfl rfl rfl rfl (by with_reducible repeat (first | exact zS .. | apply zO)) (by with_reducible repeat (first | exact Rep.head | apply Rep.tail)) rfl (by kernel_rfl) ?_
        clear hS
        intro m hS
        rw [hallE] at hS
        refine QN.calm ?_
        (with_reducible repeat (first | refine QN.B1 ?_ | refine QN.N1 ?_))
        refine go ?_
        refine RL.append1M T_ok hS [.tmp 84] [pA b] rfl rfl rfl rfl rfl rfl rfl rfl rfl rfl .head (by simp [Value.cells]) (by simp [pA, Value.oneCell']) (by unfold maxLen; omega) (by show (_ + _) * 8 ≤ _; omega) ?_
        clear hS
        intro _ v8' m S8' hS
        refine ⟨_, rfl, ?_⟩
        refine go ?_
        have hS : Tr m0 M0 X m (ownA S8' 176 1 v8' (bs ++ [b]).length ((bs ++ [b]).map pA) :: blkA b 178 (nC (Us.nx (q.u l) (bs.length + 1)) (some cur) (.slice none 0 0) (.slice none 0 0) (more - bs.length)) :: sqH (q.more (Us.nx (q.u l) 1) (bs ++ [b])) s ra rt fr at_ ord ro (M.set z { d with rr := R }) []) := by
          rw [List.length_append, List.map_append]; exact hS
        have hw9 : IntKind.i64.wrap (((more - bs.length : Nat) : Int) - 1) = ((more - (bs ++ [b]).length : Nat) : Int) := by rw [wrap_i64_in _ (by omega) (by omega), List.length_append, List.length_singleton]; omega
        rw [hw9]
        refine QN.round (bs ++ [b], b, v8') (Sub.C1 rfl (Sub.C1 rfl (Sub.C1 rfl (Sub.C1 rfl (Sub.C1 rfl Sub.nil))))) ⟨_, _, _, S8', hstep, ?_⟩ (by simp; omega)
        have hS := ((hS.empty 176 1 none).empty 176 1 none).sels (Pre := [ownA S8' 176 1 v8' (bs ++ [b]).length ((bs ++ [b]).map pA), blkA b 178 (nC (Us.nx (q.u l) (bs.length + 1)) (some cur) (.slice none 0 0) (.slice none 0 0) (more - bs.length)), ownA [] 176 1 (.slice none 0 0) 0 [], ownA [] 176 1 (.slice none 0 0) 0 []]) (F := sqH (q.more (Us.nx (q.u l) 1) (bs ++ [b])) s ra rt fr at_ ord ro (M.set z { d with rr := R }) []) (.own (.tail (.tail .head)) (.own (.tail (.tail .head)) (.own .head (.own .head .nil))))
        have hS := hS.perm (((List.perm_append_comm (l₁ := [_, _, _]) (l₂ := sqH (q.more (Us.nx (q.u l) 1) (bs ++ [b])) s ra rt fr at_ ord ro (M.set z { d with rr := R }) [])).cons _))
        have e2 : (ndL (M.set z { d with rr := R }) ++ []) ++ [blkA b 178 (nC (Us.nx (q.u l) (bs.length + 1)) (some cur) (.slice none 0 0) (.slice none 0 0) (more - bs.length)), ownA [] 176 1 (.slice none 0 0) 0 [], ownA [] 176 1 (.slice none 0 0) 0 []] = ndL (M.set z { d with rr := R } ++ [⟨b, Us.nx (q.u l) (bs.length + 1), some cur, more - bs.length, ⟨[], .slice none 0 0, []⟩, ⟨[], .slice none 0 0, []⟩⟩]) ++ [] := by
          simp [ndL, Nd.A, Rw.A]
        simp only [List.cons_append, e2] at hS
        exact hS
    · clear hS
      rintro ⟨bs, cur, v8⟩ m ⟨hlen, M, z, d, S8, c, hS⟩
      dsimp only at hlen c hS ⊢
      subst hlen
      refine QN.bx ?_
      have hS : Tr m0 M0 X m (ownA S8 176 1 v8 bs.length (bs.map pA) :: blkA s 175 [.map (some ra), ord.v, ro.v, .map (some rt), .bool fr] :: mapA ra iV (q.more (Us.nx (q.u l) 1) bs).allE :: mapA rt iV at_ :: ownA ord.S 176 1 ord.v ord.xs.length (ord.xs.map pA) :: ro.A :: (ndL M ++ [])) := hS
      refine go ?_
      refine RL.callM (fi := []) (ca := []) hS (insN_s ord.v v8 ord.S S8 ord.xs.length (q.place l + 1) bs.length (ord.xs.map pA) (bs.map pA) (by omega) (by omega) (by omega) (fun z hz => by obtain ⟨_, _, rfl⟩ := List.mem_map.1 hz; rfl) (fun z hz => by obtain ⟨_, _, rfl⟩ := List.mem_map.1 hz; rfl)) rfl rfl rfl rfl (by repeat (first | with_reducible exact Sels.nil | apply Sels.ro (by with_reducible repeat (first | exact zS .. | apply zO)) (by rfl) | apply Sels.own (by with_reducible repeat (first | exact Sel.head | apply Sel.tail)))) ?_
      clear hS
      rintro v' m _ ⟨S', rfl⟩ hS
      simp only [zC, zN] at hS
      obtain ⟨A2, c2, rfl, _⟩ := hS.shape
      refine ⟨_, rfl, ?_⟩
      refine go ?_
      refine RL.storeM T_ok hS rfl rfl rfl rfl (by rfl) (by rfl) (by with_reducible repeat (first | exact Rep.head | apply Rep.tail)) (by rfl) ?_; (try clear hS); intro m hS
      refine go ?_
      refine RL.storeM T_ok hS rfl rfl rfl rfl (by rfl) (by rfl) (by with_reducible repeat (first | exact Rep.head | apply Rep.tail)) (by rfl) ?_; (try clear hS); intro m hS
      refine go ?_
      have hxo : (ord.xs.take (q.place l + 1) ++ (bs ++ ord.xs.drop (q.place l + 1))).length = ord.xs.length + bs.length := by simp only [List.length_append, List.length_take, List.length_drop]; omega
      have eR : (Rw.mk S' (.slice A2 (ord.xs.length + bs.length) c2) (ord.xs.take (q.place l + 1) ++ (bs ++ ord.xs.drop (q.place l + 1)))).A = ownA S' 176 1 (.slice A2 (ord.xs.length + bs.length) c2) (ord.xs.length + bs.length) ((ord.xs.map pA).take ((q.place l + 1) * 1) ++ bs.map pA ++ (ord.xs.map pA).drop ((q.place l + 1) * 1)) := by
        simp only [Rw.A, hxo, Nat.mul_one, List.map_append, List.map_take, List.map_drop, List.append_assoc]
      have hrr' : q.idx (Us.nx (q.u l) 1).r ≠ some l := hrr
      have hk := k.chain (ord1 := Rw.mk S' (.slice A2 (ord.xs.length + bs.length) c2) (ord.xs.take (q.place l + 1) ++ (bs ++ ord.xs.drop (q.place l + 1)))) (at_ := at_) ht few hr hl hA hrr' (by rw [hNb]; exact c.c) rfl
      have hS : Tr m0 M0 X m (sqH (q.more (Us.nx (q.u l) 1) bs) s ra rt false at_ (Rw.mk S' (.slice A2 (ord.xs.length + bs.length) c2) (ord.xs.take (q.place l + 1) ++ (bs ++ ord.xs.drop (q.place l + 1)))) ro M []) := by
        rw [← eR] at hS
        exact hS.sels (Pre := [_, _, _, _]) (by repeat (first | with_reducible exact Sels.nil | apply Sels.ro (by repeat (first | exact zS .. | with_reducible apply zO)) (by rfl) | apply Sels.own (by repeat (first | exact Sel.head | with_reducible apply Sel.tail))))
      obtain ⟨S9, hS⟩ := seq_close hk hS
      subst hM0
      exact QN.end0 rfl ⟨_, rfl, _, ⟨S9, bs, rfl, rfl⟩, hS⟩
end Go.Proofs.YtgpgladbdoimdaaGreatDoor
end
section
namespace Go.Proofs.YtgpgladbdoimdaaGreatDoor
open Go.ChangeShapes Go.WideShapes Go.ChangeAt Go.RowKit Go.Ev Go.Ids Go.SeqP
set_option maxRecDepth 20000
set_option maxHeartbeats 2000000
theorem own1_s (b4 b5 n : Nat) (x : Un) (y : Idn) (hk : x.id.k + n < 18446744073709551616) : DoS Tryz.prog 228 [iV y, pA b4, pA b5] [blkA b4 101 (uC x), blkA b5 3 [.int .i64 n]] (fun v H => v = .bool (decide (y.c = x.id.c) && decide (x.id.k < y.k) && decide (y.k < x.id.k + n)) ∧ H = [blkA b4 101 (uC x), blkA b5 3 [.int .i64 n]]) := by
  intro m0 X hS
  refine FnE.enter ⟨_, Tryz.func228, by kernel_rfl, by kernel_rfl⟩ Tryz.func228 rfl rfl ?_
  refine go ?_
  refine RL.boxS hS rfl rfl rfl ?_; (try clear hS); intro b1 m hS; refine ⟨_, rfl, ?_⟩
  refine go ?_
  obtain ⟨b2, hb⟩ : ∃ b, ((y.c : Int) == (x.id.c : Int)) = b := ⟨_, rfl⟩
  have e1 : decide (y.c = x.id.c) = b2 := by rw [← hb, Bool.eq_iff_iff]; simp; omega
  rw [hb, e1]
  cases b2 with
  | false =>
    refine go ?_
    exact QN.ret1 rfl rfl ⟨_, rfl, _, ⟨by simp, rfl⟩, hS.tail⟩
  | true =>
    refine go ?_
    obtain ⟨b3, hb3⟩ : ∃ b, decide ((y.k : Int) > (x.id.k : Int)) = b := ⟨_, rfl⟩
    have e2 : decide (x.id.k < y.k) = b3 := by rw [← hb3]; exact decide_eq_decide.2 (by omega)
    rw [hb3, e2]
    cases b3 with
    | false =>
      refine go ?_
      exact QN.ret1 rfl rfl ⟨_, rfl, _, ⟨by simp, rfl⟩, hS.tail⟩
    | true =>
      refine go ?_
      have hw : IntKind.u64.wrap ((x.id.k : Int) + IntKind.u64.wrap (n : Int)) = ((x.id.k + n : Nat) : Int) := by rw [wrap_u64_in (n : Int) (by omega) (by omega), wrap_u64_in _ (by omega) (by omega)]; omega
      have e3 : decide ((y.k : Int) < ((x.id.k + n : Nat) : Int)) = decide (y.k < x.id.k + n) := decide_eq_decide.2 (by omega)
      rw [hw, e3]
      exact QN.ret1 rfl rfl ⟨_, rfl, _, ⟨by simp, rfl⟩, hS.tail⟩
theorem run_s (S : List Nat) (s n : Nat) (q : Sq) (x : Un) (ht : q.tr = true) (hq : q.Ok) (few : q.us.length + n ≤ 1000000) :
    DoS Tryz.prog 206 [pA s, uV x, .int .i64 n] [seqA S s q] (fun v H => v = .bool (q.runs x n) ∧ ∃ S' q', q'.toUs = q.run x n ∧ q'.tr = true ∧ H = [seqA S' s q']) := by
  intro m0 X hS
  have no : ∀ {m : World} {S' : List Nat} {F : List Asn}, q.runs x n = false → Tr m0 (ofps [seqA S s q]) X m (seqA S' s q :: F) → ∃ v, Ending.returned (.bool false) = .returned v ∧ ∃ H', (v = .bool (q.runs x n) ∧ ∃ S' q', q'.toUs = q.run x n ∧ q'.tr = true ∧ H' = [seqA S' s q']) ∧ Tr m0 (ofps [seqA S s q]) X m H' :=
    fun {m S' F} h hS => ⟨_, rfl, [seqA S' s q], ⟨by rw [h], S', q, by simp [Us.run, h], ht, rfl⟩, hS.drop (H := [_])⟩
  refine FnE.enter ⟨_, Tryz.func206, by kernel_rfl, by kernel_rfl⟩ Tryz.func206 rfl rfl ?_
  refine go ?_
  refine RL.boxS hS rfl rfl rfl ?_; (try clear hS); intro b4 m hS; refine ⟨_, rfl, ?_⟩
  refine go ?_
  refine RL.boxS hS rfl rfl rfl ?_; (try clear hS); intro b5 m hS; refine ⟨_, rfl, ?_⟩
  have hS := hS.perm (List.perm_append_comm (l₁ := [_, _]) (l₂ := [_]))
  simp only [zC, zN] at hS
  refine go ?_
  rcases Nat.eq_zero_or_pos n with hn0 | hn0
  · have hd : decide ((n : Int) < 1) = true := decide_eq_true (by omega)
    rw [hd]
    refine go ?_
    exact QN.ret1 rfl rfl (no (by simp [Us.runs, hn0]) hS)
  have hd : decide ((n : Int) < 1) = false := decide_eq_false (by omega)
  rw [hd]
  refine go ?_
  have hp := rightI_p x.id
  cases hR : x.id.right with
  | false =>
    rw [hR] at hp
    refine RL.callU (fi := []) (ca := []) hS hp rfl rfl rfl rfl (by repeat (first | with_reducible exact Sels.nil | apply Sels.ro (by with_reducible repeat (first | exact zS .. | apply zO)) (by rfl) | apply Sels.own (by with_reducible repeat (first | exact Sel.head | apply Sel.tail)))) rfl (fun m hS => ?_)
    refine go ?_
    exact QN.ret1 rfl rfl (no (by simp [Us.runs, Us.may, hR]) hS)
  | true =>
  rw [hR] at hp
  refine RL.callU (fi := []) (ca := []) hS hp rfl rfl rfl rfl (by repeat (first | with_reducible exact Sels.nil | apply Sels.ro (by with_reducible repeat (first | exact zS .. | apply zO)) (by rfl) | apply Sels.own (by with_reducible repeat (first | exact Sel.head | apply Sel.tail)))) rfl (fun m hS => ?_)
  refine go ?_
  have hR' := hR
  simp only [Idn.right, num, Bool.and_eq_true, decide_eq_true_eq] at hR'
  have hw : IntKind.u64.wrap (IntKind.u64.wrap (9007199254740991 - (x.id.k : Int)) + 1) = ((9007199254740992 - x.id.k : Nat) : Int) := by rw [wrap_u64_in (9007199254740991 - (x.id.k : Int)) (by omega) (by omega), wrap_u64_in _ (by omega) (by omega)]; omega
  have hw2 : IntKind.u64.wrap (n : Int) = (n : Int) := wrap_u64_in _ (by omega) (by omega)
  rw [hw, hw2]
  rcases Nat.lt_or_ge (9007199254740992 - x.id.k) n with hk | hk
  · have hd : decide ((n : Int) > ((9007199254740992 - x.id.k : Nat) : Int)) = true := decide_eq_true (by omega)
    rw [hd]
    refine go ?_
    exact QN.ret1 rfl rfl (no (by simp [Us.runs]; omega) hS)
  have hd : decide ((n : Int) > ((9007199254740992 - x.id.k : Nat) : Int)) = false := decide_eq_false (by omega)
  rw [hd]
  refine go ?_
  refine RL.callM (fi := []) (ca := []) hS (may_s S s q x) rfl rfl rfl rfl (by repeat (first | with_reducible exact Sels.nil | apply Sels.ro (by with_reducible repeat (first | exact zS .. | apply zO)) (by rfl) | apply Sels.own (by with_reducible repeat (first | exact Sel.head | apply Sel.tail)))) ?_
  clear hS
  rintro _ m _ ⟨rfl, S2, rfl⟩ hS
  simp only [zC, zN] at hS
  refine ⟨_, rfl, ?_⟩
  cases hm : q.may x with
  | false =>
    refine go ?_
    exact QN.ret1 rfl rfl (no (by simp [Us.runs, hm]) hS)
  | true =>
  refine go ?_
  refine (WP.loopX (X := Nat) (fun i => [(0, pA s), (4, pA b4), (5, pA b5), (33, .int .i64 n), (34, .int .i64 i)])
    (fun i m' => i ≤ n ∧ (∀ j, j < i → q.idx ⟨x.id.c, x.id.k + j⟩ = none) ∧ ∃ S2, Tr m0 (ofps [seqA S s q]) X m' [seqA S2 s q, blkA b5 3 [.int .i64 n], blkA b4 101 (uC x)])
    (fun i m' => (∀ j, j < n → q.idx ⟨x.id.c, x.id.k + j⟩ = none) ∧ ∃ S2, Tr m0 (ofps [seqA S s q]) X m' [seqA S2 s q, blkA b5 3 [.int .i64 n], blkA b4 101 (uC x)])
    (fun i => n - i) 0 0 (Sub.C1 rfl (Sub.C1 rfl (Sub.C1 rfl (Sub.C1 rfl (Sub.C1 rfl Sub.nil))))) ⟨Nat.zero_le _, fun j hj => absurd hj (by omega), S2, hS⟩ ?_ ?_)
  · clear hS
    rintro i m ⟨hi, hnew, S2, hS⟩
    dsimp only at hi hnew hS ⊢
    refine go ?_
    rcases Nat.eq_or_lt_of_le hi with hin | hin
    · have hd : decide ((i : Int) < (n : Int)) = false := decide_eq_false (by omega)
      rw [hd]
      refine go ?_
      exact WP.exit (QN.tx (QN.tx (QN.exitJ i (Sub.C1 rfl (Sub.C1 rfl (Sub.C1 rfl (Sub.C1 rfl (Sub.C1 rfl Sub.nil))))) ⟨fun j hj => hnew j (by omega), S2, hS⟩)))
    · have hd : decide ((i : Int) < (n : Int)) = true := decide_eq_true (by omega)
      rw [hd]
      obtain ⟨ra, rt, fr, at_, ord, ro, N, k, hS⟩ := seq_open hS
      have hN : blkA b4 101 (uC x) ∈ ndL N ++ [blkA b5 3 [.int .i64 n], blkA b4 101 (uC x)] := by simp
      have hg := k.get (⟨x.id.c, x.id.k + i⟩ : Idn)
      have hw : IntKind.u64.wrap ((x.id.k : Int) + IntKind.u64.wrap (i : Int)) = ((x.id.k + i : Nat) : Int) := by rw [wrap_u64_in (i : Int) (by omega) (by omega), wrap_u64_in _ (by omega) (by omega)]; omega
      refine go ?_
      rw [hw]
      refine RH.lookup (κ := Idn) (k := (⟨x.id.c, x.id.k + i⟩ : Idn)) (es := q.allE) (v := pO ((q.idx ⟨x.id.c, x.id.k + i⟩).map q.a)) T_ok PanicOk.calm idK rfl (by kernel_rfl) rfl rfl rfl rfl rfl rfl rfl (by with_reducible repeat (first | exact zS .. | apply zO)) hg rfl ?_
      obtain ⟨S3, hS⟩ := seq_close k hS
      cases hx : q.idx ⟨x.id.c, x.id.k + i⟩ with
      | some j =>
        refine go ?_
        refine QN.exitRet ?_
        (with_reducible repeat (first | refine QN.tr ?_ | refine QN.br ?_))
        refine QN.ret1 rfl rfl (no ?_ hS)
        rw [Bool.eq_false_iff]
        intro hh
        have := (Us.runs_iff.1 hh).new i hin
        rw [hx] at this; cases this
      | none =>
        refine go ?_
        have hwi : IntKind.i64.wrap ((i : Int) + 1) = ((i + 1 : Nat) : Int) := by rw [wrap_i64_in _ (by omega) (by omega)]; omega
        rw [hwi]
        refine QN.round (i + 1) (Sub.C1 rfl (Sub.C1 rfl (Sub.C1 rfl (Sub.C1 rfl (Sub.C1 rfl Sub.nil))))) ⟨hin, fun j hj => ?_, S3, hS⟩ (by omega)
        · rcases Nat.eq_or_lt_of_le (Nat.le_of_lt_succ hj) with rfl | hj
          · exact hx
          · exact hnew j hj
  · clear hS
    rintro _ m ⟨hnew, S2, hS⟩
    refine QN.bx ?_
    have hruns : q.Runs x n := ⟨hn0, by omega, hnew, hm⟩
    have hrt := Us.runs_iff.2 hruns
    obtain ⟨hth1, hth2⟩ := hruns.there
    have own : ∀ y : Idn, (y = ⟨0, 0⟩ ∨ ∃ i, q.idx y = some i) → (decide (y.c = x.id.c) && decide (x.id.k < y.k) && decide (y.k < x.id.k + n)) = false := fun y hy => by
      rw [Bool.eq_false_iff]
      intro hh
      simp only [Bool.and_eq_true, decide_eq_true_eq] at hh
      obtain ⟨⟨h1, h2⟩, h3⟩ := hh
      rcases hy with rfl | ⟨i, hy⟩
      · simp only at h1; omega
      · have := hnew (y.k - x.id.k) (by omega)
        rw [show x.id.k + (y.k - x.id.k) = y.k by omega, ← h1] at this
        rw [show (⟨y.c, y.k⟩ : Idn) = y from rfl, hy] at this
        cases this
    refine go ?_
    refine RL.callM (fi := []) (ca := [pA b4, pA b5]) hS (own1_s b4 b5 n x x.l (by omega)) rfl rfl rfl rfl (by repeat (first | with_reducible exact Sels.nil | apply Sels.ro (by with_reducible repeat (first | exact zS .. | apply zO)) (by rfl) | apply Sels.own (by with_reducible repeat (first | exact Sel.head | apply Sel.tail)))) ?_
    clear hS
    rintro _ m _ ⟨rfl, rfl⟩ hS
    simp only [zC, zN] at hS
    rw [own _ hth1]
    refine ⟨_, rfl, ?_⟩
    refine go ?_
    refine RL.callM (fi := []) (ca := [pA b4, pA b5]) hS (own1_s b4 b5 n x x.r (by omega)) rfl rfl rfl rfl (by repeat (first | with_reducible exact Sels.nil | apply Sels.ro (by with_reducible repeat (first | exact zS .. | apply zO)) (by rfl) | apply Sels.own (by with_reducible repeat (first | exact Sel.head | apply Sel.tail)))) ?_
    clear hS
    rintro _ m _ ⟨rfl, rfl⟩ hS
    simp only [zC, zN] at hS
    rw [own _ hth2]
    refine ⟨_, rfl, ?_⟩
    refine go ?_
    refine RL.callM (fi := []) (ca := []) hS (put_s S2 s q x ht hm (by omega)) rfl rfl rfl rfl (by repeat (first | with_reducible exact Sels.nil | apply Sels.ro (by with_reducible repeat (first | exact zS .. | apply zO)) (by rfl) | apply Sels.own (by with_reducible repeat (first | exact Sel.head | apply Sel.tail)))) ?_
    clear hS
    rintro _ m _ ⟨S3, b, rfl⟩ hS
    simp only [zC, zN] at hS
    refine ⟨_, rfl, ?_⟩
    refine go ?_
    rcases Nat.eq_or_lt_of_le hn0 with h1 | h1
    · have hd : decide ((n : Int) > 1) = false := decide_eq_false (by omega)
      rw [hd]
      refine go ?_
      refine QN.ret1 rfl rfl ⟨_, rfl, [seqA S3 s (q.one x b)], ⟨by rw [hrt], S3, _, ?_, rfl, rfl⟩, hS.drop (H := [_])⟩
      have : n = 1 := by omega
      subst this
      simp [Us.run, hrt, Us.puts, Us.nx, Sq.one]
    · have hd : decide ((n : Int) > 1) = true := decide_eq_true (by omega)
      rw [hd]
      refine WP.condT rfl ?_
      have hidn : q.idx x.id = none := by simpa using hruns.new 0 hn0
      have hq1 : (q.one x b).Ok := hq.put hR hidn
      have hi1 : (q.one x b).idx x.id = some q.us.length := by show (q.put x).idx x.id = _; rw [Us.put_idx hidn, if_pos rfl]
      have hu1 : (q.one x b).u q.us.length = x := Us.put_u_new
      obtain ⟨m', rfl⟩ : ∃ m', n = m' + 2 := ⟨n - 2, by omega⟩
      refine WP.drawL [blkA b5 3 [.int .i64 (m' + 2 : Nat)], blkA b4 101 (uC x)] hS (by repeat (first | exact AllIn.nil | refine AllIn.cons (by repeat (first | with_reducible exact zS .. | exact zS .. | with_reducible apply zO)) ?_)) rfl (by kernel_rfl) ?_
      obtain ⟨ra, rt, fr, at_, ord, ro, N, k, hU⟩ := seq_open hS
      have hadl := k.adl
      have hg := k.get x.id
      rw [hi1] at hg
      have ha : (q.one x b).a q.us.length = b := Sq.one_new (by
        have h1 : (q.ad ++ [b]).length = (q.put x).us.length := hadl
        rw [Us.put_len, List.length_append, List.length_singleton] at h1; omega)
      refine RH.vals 60 T_ok PanicOk.calm rfl (by kernel_rfl) rfl ?_
      refine RH.loadSegM T_ok PanicOk.calm 6 rfl (by kernel_rfl) rfl rfl rfl (by with_reducible repeat (first | exact zS .. | apply zO)) rfl rfl rfl ?_
      refine RH.loadM T_ok PanicOk.calm 8 rfl (by kernel_rfl) rfl rfl rfl (by with_reducible repeat (first | exact zS .. | apply zO)) rfl rfl ?_
      refine RH.vals 60 T_ok PanicOk.calm rfl (by kernel_rfl) rfl ?_
      have hw : IntKind.i64.wrap (((m' + 2 : Nat) : Int) - 1) = ((m' + 1 : Nat) : Int) := by rw [wrap_i64_in _ (by omega) (by omega)]; omega
      rw [hw]
      refine RH.one rfl (by kernel_rfl) rfl ?_
      refine RL.loadM T_ok hU rfl rfl rfl (by with_reducible repeat (first | exact zS .. | apply zO)) rfl rfl ?_
      refine RL.N1 (RH.contM hS (by repeat (first | exact AllIn.nil | refine AllIn.cons (by repeat (first | with_reducible exact zS .. | exact zS .. | with_reducible apply zO)) ?_)) ?_)
      refine RH.one rfl (by kernel_rfl) rfl ?_
      refine RL.lookup (κ := Idn) (k := x.id) (es := (q.one x b).allE) (v := pO ((some q.us.length).map (q.one x b).a)) T_ok hU idK rfl rfl rfl rfl rfl rfl (by with_reducible repeat (first | exact zS .. | apply zO)) hg rfl ?_
      refine RL.N1 (RH.contM hS (by repeat (first | exact AllIn.nil | refine AllIn.cons (by repeat (first | with_reducible exact zS .. | exact zS .. | with_reducible apply zO)) ?_)) ?_)
      have hnx := hq.runs_next hruns
      obtain ⟨pa, sd, kk, up, g, _⟩ := hq.grown x
      have hrr : (q.one x b).idx x.r ≠ some q.us.length := fun hh => by
        have h1 : (q.put x).idx x.r = some q.us.length := hh
        rw [Us.put_idx hidn] at h1
        split at h1
        · rename_i h2
          rcases hth2 with h3 | ⟨i, h3⟩
          · rw [← h2] at h3; exact Idn.right_ne hR h3
          · rw [← h2, hidn] at h3; cases h3
        · have := (Us.idx_some h1).1; omega
      have hch := chain_s S3 s q.us.length (m' + 1) (q.one x b) sd pa rfl hq1 (by omega) (by rw [hu1]; exact hnx) (by rw [hu1]; exact hi1) g.new (by rw [hu1]; exact hrr) (by show (q.put x).us.length + _ ≤ _; rw [Us.put_len]; omega)
      refine RH.callS (fi := []) (ca := []) hS hch rfl (by kernel_rfl) rfl rfl rfl rfl rfl (by repeat (first | with_reducible exact Sels.nil | apply Sels.ro (by with_reducible repeat (first | exact zS .. | apply zO)) (by rfl) | apply Sels.own (by with_reducible repeat (first | exact Sel.head | apply Sel.tail)))) ?_
      clear hS
      rintro _ m _ ⟨S5, bs, hbs, rfl⟩ hS
      simp only [zC, zN] at hS
      refine ⟨by simp only [zC, zN]; exact (by repeat (first | exact AllIn.nil | refine AllIn.cons (by repeat (first | with_reducible exact zS .. | exact zS .. | with_reducible apply zO)) ?_)), _, rfl, ?_⟩
      refine go ?_
      refine QN.ret1 rfl rfl ⟨_, rfl, [seqA S5 s _], ⟨by rw [hrt], S5, _, ?_, rfl, rfl⟩, hS.drop (H := [_])⟩
      show ((q.put x).puts (Us.nx ((q.one x b).u q.us.length) 1) bs.length) = q.run x (m' + 2)
      rw [hbs, hu1, Us.run, if_pos hrt]
      exact (Us.puts_nx q.toUs x (m' + 1)).symm
end Go.Proofs.YtgpgladbdoimdaaGreatDoor
end
section
namespace Go.Ev
open Go.RowKit
section
variable {P : Program} {ops : Array Oper} {Q : Exit → Act → World → Prop} {J : World → Prop} {fin : List Nat} {fuel n : Nat} {listed : Array Bool} {e : Env} {D : Fr} {m : World}
theorem RF.each {is : List Nat} (hne : is ≠ []) (hr : Region.ready .any ops listed = is) (h : ∀ i ∈ is, ∃ o, ops[i]? = some o ∧ RL P ops (Exit.then (onlyK D.ro P ops Q J fin i fuel (listed.setIfInBounds i true)) Q) [o] n e D m) : RF P ops Q J fin (fuel + 1) listed n e D m := by
  intro a w hf hw
  refine wpAnyF_all hr hne (fun i hi' => ?_)
  obtain ⟨o, hi, h0⟩ := h i hi'
  have h1 := h0 a w hf hw
  unfold wpOpIn
  simp only [hi]
  unfold wpListIn at h1
  split
  · rename_i hwa
    rw [if_pos hwa] at h1
    refine ⟨fun _ _ => trivial, ?_⟩
    have h1 := h1.2
    change Oper.uponIn (fenceR D.ro) 0 P o a _ _ ((Oper.semAt (fenceR D.ro).round a.eval o).run P w) at h1
    generalize (Oper.semAt (fenceR D.ro).round a.eval o).run P w = r at *
    cases r with
    | ok x w' =>
      cases x <;> simp only [Oper.uponIn] at h1 ⊢
      case value u => exact h1
      case skip => exact h1
      case defer d => exact h1
      case enter f args =>
        refine ⟨h1.1, CallsIn.mono h1.2 fun e w'' he => ?_⟩
        cases e with
        | returned u => exact he
        | panicked c => exact he
        | outgrown => obtain ⟨a0, w0, h2⟩ := he; exact ⟨a0, w0, h2⟩
      case row row args => exact ⟨h1.1, RowsIn.mono h1.2 fun u w'' he => he⟩
      case round l f tmps assign body =>
        refine ⟨h1.1, RoundIn.mono h1.2 fun e w'' he => ?_⟩
        cases e with
        | returned u => exact he
        | panicked c => exact he
        | outgrown => obtain ⟨a0, w0, h2⟩ := he; exact ⟨a0, w0, h2⟩
    | halt x w' =>
      cases x <;> simp only [Oper.uponIn] at h1 ⊢
      case panic u => exact h1
  · rename_i hwa
    rw [if_neg hwa] at h1
    exact ⟨fun _ _ => trivial, h1.2⟩
theorem RH.two {i j : Nat} {o o' : Oper} (_ : rdyL ops listed.toList = [i, j]) (hr : Region.ready .any ops listed = [i, j]) (hi : ops[i]? = some o) (hj : ops[j]? = some o')
    (h1 : RL P ops (Exit.then (onlyK D.ro P ops Q J fin i fuel (listed.setIfInBounds i true)) Q) [o] n e D m) (h2 : RL P ops (Exit.then (onlyK D.ro P ops Q J fin j fuel (listed.setIfInBounds j true)) Q) [o'] n e D m) : RH P ops Q J fin (fuel + 1) listed n e D m :=
  fun a w hf hw _ => RF.each (by simp) hr (fun k hk => by
    simp only [List.mem_cons, List.not_mem_nil, or_false] at hk
    rcases hk with rfl | rfl
    · exact ⟨o, hi, h1⟩
    · exact ⟨o', hj, h2⟩) a w hf hw
theorem WP.cutT {x y : Code} {X : Type} (E : X → Env) (I : X → World → Prop) (h1 : WP P x (Exit.then (fun a w => ∃ x' m', Fits n (E x') D a ∧ Sim m' w ∧ I x' m') Q) n e D m)
    (h2 : ∀ x' m', I x' m' → WP P y Q n (E x') D m') : WP P x (Exit.then (fun a w => y.wpIn (fenceR D.ro) 0 P Q a w) Q) n e D m := by
  intro a w hf hw
  refine wpIn_mono (h1 a w hf hw) fun ex a' w' hq => ?_
  cases ex with
  | normal => obtain ⟨x', m', hfx, hsx, hI⟩ := hq; exact h2 x' m' hI a' w' hfx hsx
  | exit id => exact hq
  | goto l => exact hq
  | ret => exact hq
  | panic ch => exact hq
  | outgrown => exact hq
end
end Go.Ev
end
