import Derived.Test.YtmjpcaiehfimgaaGreatDoorMMsgVR6
namespace Go
theorem dF {p : Prop} [Decidable p] (h : ¬p) : decide p = false := decide_eq_false h
theorem dT {p : Prop} [Decidable p] (h : p) : decide p = true := decide_eq_true h
theorem zV {α β : Type _} {f : α → β} {a b : α} (h : a = b) : f a = f b := congrArg f h
theorem bF {α : Type _} [BEq α] [LawfulBEq α] {a b : α} (h : a ≠ b) : (a == b) = false := beq_false_of_ne h
theorem zL {α : Type _} {l r : List α} : (l ++ r).length = l.length + r.length := List.length_append
end Go
section
namespace Go.Proofs.YtmjpcaiehfimgaaGreatDoor
open Go.RowKit Go.Ev Go.Ids
theorem Tr.writer {m0 m : World} {M0 X : List Nat} {H : List Asn} {b : Nat} (h : Tr m0 M0 X m (blkA b 51 [.slice none 0 0] :: H)) : Tr m0 M0 X m (wA b [b] [] :: H) :=
  h.turn (B := wA b [b] []) (fun hP => ⟨_, [], hP, Ev.Own.empty _ _ _ _, by simp, rfl⟩) (fun k hk => hk) (by simp [wA])
def WriteP (m : Msg) (r : Value) (H : List Asn) : Prop := (m.ok txt = true ∧ ∃ v S, r = .tuple #[v, .int .i64 0] ∧ H = [ownA S 5 1 v m.enc.length (u8s m.enc)]) ∨ (m.ok txt = false ∧ r = .tuple #[.slice none 0 0, .int .i64 230] ∧ H = [])
theorem encT_len {x : Trn} (h : x.right = true) : (encT x).length ≤ 40 := by
  obtain ⟨g1, g2, g3, g4, g5, g6, g7⟩ := tright_iff.1 h
  have h1 := encU_len10 (n := x.c) (by omega)
  have h2 := encU_len10 (n := x.f) (by omega)
  have h3 := encU_len10 (n := x.t) (by omega)
  have h4 := encU_len10 (n := x.n) (by omega)
  simp only [encT, zL]; omega
theorem encTs_len (L : List Trn) (h : ∀ x ∈ L, x.right = true) : (L.flatMap encT).length ≤ 40 * L.length := by
  induction L with
  | nil => simp
  | cons x L ih =>
    have h1 := encT_len (h x (zS ..))
    have h2 := ih (fun y hy => h y (zO _ hy))
    simp only [List.flatMap_cons, zL, List.length_cons]; omega
theorem encV_len {L : List Clk} (h : VCanon L) (hl : L.length ≤ 16384) : (encV L).length ≤ 400000 := by
  have h1 := encL_len 0 L h.1
  have h2 := encU_len10 (n := L.length) (by omega)
  simp only [encV, zL]; omega
theorem encS_len (s : List UInt8) (h : s.length < 1000000000) : (encS s).length ≤ s.length + 10 := by
  have h2 := encU_len10 (n := s.length) (by omega)
  simp only [encS, zL]; omega
theorem wr_u64 (n : Nat) (h : n < 1000000000) : IntKind.u64.wrap (n : Int) = (n : Int) := wrap_u64_in _ (by omega) (by omega)
theorem encTs_snoc (L : List Trn) (i : Nat) (h : i < L.length) (pre : List UInt8) : pre ++ (L.take (i + 1)).flatMap encT = (((pre ++ (L.take i).flatMap encT) ++ encU L[i].c) ++ encU L[i].f) ++ encU L[i].t ++ encU L[i].n := by
  rw [List.take_succ_eq_append_getElem h, List.flatMap_append]
  simp [encT]
theorem enc_len {V : List UInt8 → Bool} {g : Msg} (h : g.Ok V) (hf : g.Fit) : g.enc.length < 500000000 := by
  have v := vclean_canon g.vec
  have t := (tnorm_canon g.turns).1
  obtain ⟨K, c, n, room, vec, turns, b⟩ := g
  obtain ⟨f1, f2, f3, f4⟩ := hf
  simp only at f1 f2 f3 f4 v t
  have q2 := encS_len room (by omega)
  have q5 := encS_len b (by omega)
  have q4 := encTs_len (tnorm turns) t
  unfold Msg.Ok at h
  simp only at h
  rcases h with ⟨hk, rfl, rfl, h4, h5, h6⟩ | ⟨hk, rfl, rfl, rfl, rfl, h6, h7, h8⟩ | ⟨hk, rfl, rfl, rfl, rfl, rfl, h6, h7⟩
  · have q3 := encV_len v h4
    have q6 := encU_len10 (n := (tnorm turns).length) (by omega)
    rcases h6 with ⟨rfl, g1, g2, _⟩ | ⟨rfl, rfl, rfl⟩
    · have q1 := encU_len10 (n := c) (by omega)
      simp only [Msg.enc, encTs, if_true, List.length_cons, zL]; omega
    · simp only [Msg.enc, encTs, if_true]
      rw [if_neg (by decide)]
      simp only [List.length_cons, zL]; omega
  · have q1 := encU_len10 (n := n) (by omega)
    rcases hk with rfl | rfl
    · show (UInt8.ofNat 3 :: (encU n ++ encS b)).length < _
      simp only [List.length_cons, zL]; omega
    · show (UInt8.ofNat 5 :: encS b).length < _
      simp only [List.length_cons]; omega
  · have q1 := encU_len10 (n := n) (by omega)
    rcases hk with rfl | rfl
    · show (UInt8.ofNat 4 :: encU n).length < _
      simp only [List.length_cons]; omega
    · show (UInt8.ofNat 6 :: encU n).length < _
      simp only [List.length_cons]; omega
theorem bare_fit {g : Msg} (h : g.Fit) : g.bare.Fit := by
  obtain ⟨h1, h2, h3, h4⟩ := h
  unfold Msg.bare
  repeat' split
  all_goals exact ⟨by simp_all, by simp_all, by simp_all, by simp_all⟩
set_option maxRecDepth 20000 in
theorem mwrite_s (g : Msg) (vv tv bv : Value) (hf : g.Fit) : DoS Tryz.prog 8 [.agg (mC g vv tv bv).toArray] (tabA :: mR g vv tv bv) (WriteP g) := by
  intro m0 X hS
  have hok := Msg.right_ok txt g
  obtain ⟨PP, hP⟩ : ∃ PP, ofps (tabA :: mR g vv tv bv) = PP := ⟨_, rfl⟩
  rw [hP] at hS ⊢
  clear hP
  simp only [mR] at hS
  have bad : ∀ m H, g.ok txt = false → Tr m0 PP X m H → ∃ r, Ending.returned (.tuple #[.slice none 0 0, .int .i64 230]) = .returned r ∧ ∃ H', WriteP g r H' ∧ Tr m0 PP X m H' := fun m H h hS => ⟨_, rfl, [], .inr ⟨h, rfl, rfl⟩, Tr.drop (H := []) hS⟩
  refine FnE.enter ⟨_, Tryz.func8, by kernel_rfl, by kernel_rfl⟩ Tryz.func8 rfl rfl ?_
  (with_reducible repeat (first | refine WP.S1 ?_ | refine WP.B1 ?_ | refine WP.R1 ?_))
  refine RL.boxS hS rfl rfl rfl ?_; (try clear hS); intro b1 m hS; refine ⟨_, rfl, ?_⟩
  refine RL.A1 T_ok rfl ?_
  refine RL.N1 ?_; (with_reducible repeat (first | refine QN.B1 ?_ | refine QN.N1 ?_ | refine WP.S1 ?_ | refine WP.B1 ?_ | refine WP.R1 ?_))
  refine RL.lsM T_ok hS (cs := mC g vv tv bv) (vs := mC g vv tv bv) rfl rfl rfl (by with_reducible repeat (first | exact zS .. | apply zO)) rfl rfl rfl ?_
  refine RL.callM (fi := []) (ca := []) hS (bare_s g vv tv bv hf) rfl rfl rfl rfl (by unfold mR; exact (by repeat (first | with_reducible exact Sels.nil | apply Sels.ro (by with_reducible repeat (first | exact zS .. | apply zO)) (by rfl) | apply Sels.own (by with_reducible repeat (first | exact Sel.head | apply Sel.tail))))) ?_
  (try clear hS); rintro _ m _ ⟨vv', tv', bv', rfl, rfl⟩ hS; (try simp only [zC, zN] at hS); refine ⟨_, rfl, ?_⟩
  simp only [mR, zC, zN] at hS
  refine RL.A1 T_ok rfl ?_
  refine RL.allocS T_ok rfl hS rfl rfl ?_; (try clear hS); intro b4 m hS; refine ⟨_, rfl, ?_⟩
  refine RL.ssM T_ok hS (vs := mC g.bare vv' tv' bv') rfl rfl rfl rfl rfl ?_ (by rfl) (by with_reducible repeat (first | exact Rep.head | apply Rep.tail)) (by rfl) ?_
  · simp only [mC, List.all_cons, List.all_nil, (hS.mem (A := roA 2 vv' (g.bare.vec.flatMap cC)) (by simp)).1.one, (hS.mem (A := roA 4 tv' (g.bare.turns.flatMap tC)) (by simp)).1.one, (hS.mem (A := roA 1 bv' (u8s g.bare.b)) (by simp)).1.one]
    rfl
  clear hS
  intro m hS
  change Tr m0 PP X m (blkA b4 27 (mC g.bare vv' tv' bv') :: _) at hS
  repeat (first | refine RL.autoP T_ok rfl rfl ?_ | refine RL.loadM T_ok hS rfl rfl rfl (by with_reducible repeat (first | exact zS .. | apply zO)) (by rfl) (by rfl) ?_ | refine RL.lsM T_ok hS rfl rfl rfl (by with_reducible repeat (first | exact zS .. | apply zO)) (by rfl) (by rfl) (by rfl) ?_ | (refine RL.N1 ?_; (with_reducible repeat (first | refine QN.B1 ?_ | refine QN.N1 ?_))) | with_reducible refine WP.S1 ?_ | with_reducible refine WP.B1 ?_ | with_reducible refine WP.R1 ?_ | (refine WP.skip ?_; (with_reducible repeat (first | refine QN.B1 ?_ | refine QN.N1 ?_))) | refine WP.condT rfl ?_ | refine WP.condF rfl ?_)
  cases hr : g.right txt
  · rw [hr, Bool.false_and] at hok
    repeat (first | refine RL.autoP T_ok rfl rfl ?_ | refine RL.loadM T_ok hS rfl rfl rfl (by with_reducible repeat (first | exact zS .. | apply zO)) (by rfl) (by rfl) ?_ | refine RL.lsM T_ok hS rfl rfl rfl (by with_reducible repeat (first | exact zS .. | apply zO)) (by rfl) (by rfl) (by rfl) ?_ | (refine RL.N1 ?_; (with_reducible repeat (first | refine QN.B1 ?_ | refine QN.N1 ?_))) | with_reducible refine WP.S1 ?_ | with_reducible refine WP.B1 ?_ | with_reducible refine WP.R1 ?_ | (refine WP.skip ?_; (with_reducible repeat (first | refine QN.B1 ?_ | refine QN.N1 ?_))) | refine WP.condT rfl ?_ | refine WP.condF rfl ?_)
    refine WP.ret ?_; (with_reducible repeat (first | refine QN.tr ?_ | refine QN.br ?_))
    exact QN.ret2 rfl rfl rfl (bad _ _ hok.symm hS)
  rw [hr, Bool.true_and] at hok
  refine RL.pure T_ok 3 rfl ?_
  refine RL.lsM T_ok hS (cs := mC g.bare vv' tv' bv') (vs := mC g.bare vv' tv' bv') rfl rfl rfl (by with_reducible repeat (first | exact zS .. | apply zO)) rfl rfl rfl ?_
  refine RL.lsM T_ok hS (cs := mC g vv tv bv) (vs := mC g vv tv bv) rfl rfl rfl (by with_reducible repeat (first | exact zS .. | apply zO)) rfl rfl rfl ?_
  refine RL.callM (fi := []) (ca := []) hS (alike_s g.bare g vv' tv' bv' vv tv bv (bare_fit hf)) rfl rfl rfl rfl (by unfold mR; simp only [zC, zN]; exact (by repeat (first | with_reducible exact Sels.nil | apply Sels.ro (by with_reducible repeat (first | exact zS .. | apply zO)) (by rfl) | apply Sels.own (by with_reducible repeat (first | exact Sel.head | apply Sel.tail))))) ?_
  (try clear hS); rintro _ m _ ⟨rfl, rfl⟩ hS; (try simp only [zN] at hS); refine ⟨_, rfl, ?_⟩
  cases hs : g.bare.same g
  · rw [hs] at hok
    repeat (first | refine RL.autoP T_ok rfl rfl ?_ | refine RL.loadM T_ok hS rfl rfl rfl (by with_reducible repeat (first | exact zS .. | apply zO)) (by rfl) (by rfl) ?_ | refine RL.lsM T_ok hS rfl rfl rfl (by with_reducible repeat (first | exact zS .. | apply zO)) (by rfl) (by rfl) (by rfl) ?_ | (refine RL.N1 ?_; (with_reducible repeat (first | refine QN.B1 ?_ | refine QN.N1 ?_))) | with_reducible refine WP.S1 ?_ | with_reducible refine WP.B1 ?_ | with_reducible refine WP.R1 ?_ | (refine WP.skip ?_; (with_reducible repeat (first | refine QN.B1 ?_ | refine QN.N1 ?_))) | refine WP.condT rfl ?_ | refine WP.condF rfl ?_)
    refine WP.ret ?_; (with_reducible repeat (first | refine QN.tr ?_ | refine QN.br ?_))
    exact QN.ret2 rfl rfl rfl (bad _ _ hok.symm hS)
  rw [hs] at hok
  have hOk := ok_iff.1 hok.symm
  clear bad hr hs
  have hel := enc_len hOk hf
  repeat (first | refine RL.autoP T_ok rfl rfl ?_ | refine RL.loadM T_ok hS rfl rfl rfl (by with_reducible repeat (first | exact zS .. | apply zO)) (by rfl) (by rfl) ?_ | refine RL.lsM T_ok hS rfl rfl rfl (by with_reducible repeat (first | exact zS .. | apply zO)) (by rfl) (by rfl) (by rfl) ?_ | (refine RL.N1 ?_; (with_reducible repeat (first | refine QN.B1 ?_ | refine QN.N1 ?_))) | with_reducible refine WP.S1 ?_ | with_reducible refine WP.B1 ?_ | with_reducible refine WP.R1 ?_ | (refine WP.skip ?_; (with_reducible repeat (first | refine QN.B1 ?_ | refine QN.N1 ?_))) | refine WP.condT rfl ?_ | refine WP.condF rfl ?_)
  refine RL.boxS hS rfl rfl rfl ?_; (try clear hS); intro b6 m hS; refine ⟨_, rfl, ?_⟩
  have hS := Tr.writer hS
  repeat (first | refine RL.autoP T_ok rfl rfl ?_ | refine RL.loadM T_ok hS rfl rfl rfl (by with_reducible repeat (first | exact zS .. | apply zO)) (by rfl) (by rfl) ?_ | refine RL.lsM T_ok hS rfl rfl rfl (by with_reducible repeat (first | exact zS .. | apply zO)) (by rfl) (by rfl) (by rfl) ?_ | (refine RL.N1 ?_; (with_reducible repeat (first | refine QN.B1 ?_ | refine QN.N1 ?_))) | with_reducible refine WP.S1 ?_ | with_reducible refine WP.B1 ?_ | with_reducible refine WP.R1 ?_ | (refine WP.skip ?_; (with_reducible repeat (first | refine QN.B1 ?_ | refine QN.N1 ?_))) | refine WP.condT rfl ?_ | refine WP.condF rfl ?_)
  have hkb : ∃ kb : UInt8, IntKind.u8.wrap g.kind = (kb.toNat : Int) ∧ g.enc = kb :: g.enc.tail ∧ (kb.toNat : Int) = g.kind := by
    unfold Msg.Ok at hOk
    unfold Msg.enc
    have hk : g.kind = 1 ∨ g.kind = 2 ∨ g.kind = 3 ∨ g.kind = 4 ∨ g.kind = 5 ∨ g.kind = 6 := by omega
    rcases hk with hk | hk | hk | hk | hk | hk <;> rw [hk]
    · exact ⟨UInt8.ofNat 1, rfl, rfl, rfl⟩
    · exact ⟨UInt8.ofNat 2, rfl, rfl, rfl⟩
    · exact ⟨UInt8.ofNat 3, rfl, rfl, rfl⟩
    · exact ⟨UInt8.ofNat 4, rfl, rfl, rfl⟩
    · exact ⟨UInt8.ofNat 5, rfl, rfl, rfl⟩
    · exact ⟨UInt8.ofNat 6, rfl, rfl, rfl⟩
  obtain ⟨kb, hkw, henc, hkk⟩ := hkb
  refine RL.eqv (v' := .int .u8 kb.toNat) (zV hkw) ?_
  refine RL.callM (fi := []) (ca := []) hS (wbyte_s kb b6 [b6] [] (by simp)) rfl rfl rfl rfl (by repeat (first | with_reducible exact Sels.nil | apply Sels.ro (by with_reducible repeat (first | exact zS .. | apply zO)) (by rfl) | apply Sels.own (by with_reducible repeat (first | exact Sel.head | apply Sel.tail)))) ?_
  (try clear hS); rintro _ m _ ⟨rfl, S1, rfl⟩ hS; (try simp only [zC, zN] at hS); refine ⟨_, rfl, ?_⟩
  refine RL.N1 ?_
  (with_reducible repeat (first | refine QN.B1 ?_ | refine QN.N1 ?_))
  refine WP.cut (X := List Nat) (fun S => [(6, .pointer (some ⟨b6, 0, none⟩))]) (fun S m => Tr m0 PP X m [wA b6 S g.enc]) ?_ ?_
  rotate_left
  · rintro S m hS
    repeat (first | refine RL.autoP T_ok rfl rfl ?_ | refine RL.loadM T_ok hS rfl rfl rfl (by with_reducible repeat (first | exact zS .. | apply zO)) (by rfl) (by rfl) ?_ | refine RL.lsM T_ok hS rfl rfl rfl (by with_reducible repeat (first | exact zS .. | apply zO)) (by rfl) (by rfl) (by rfl) ?_ | (refine RL.N1 ?_; (with_reducible repeat (first | refine QN.B1 ?_ | refine QN.N1 ?_))) | with_reducible refine WP.S1 ?_ | with_reducible refine WP.B1 ?_ | with_reducible refine WP.R1 ?_ | (refine WP.skip ?_; (with_reducible repeat (first | refine QN.B1 ?_ | refine QN.N1 ?_))) | refine WP.condT rfl ?_ | refine WP.condF rfl ?_)
    refine RL.callM (fi := []) (ca := []) hS (wbytes_s b6 S g.enc (by omega)) rfl rfl rfl rfl (by repeat (first | with_reducible exact Sels.nil | apply Sels.ro (by with_reducible repeat (first | exact zS .. | apply zO)) (by rfl) | apply Sels.own (by with_reducible repeat (first | exact Sel.head | apply Sel.tail)))) ?_
    (try clear hS); rintro r m _ ⟨S2, rfl⟩ hS; (try simp only [zC, zN] at hS); refine ⟨_, rfl, ?_⟩
    repeat (first | refine RL.autoP T_ok rfl rfl ?_ | refine RL.loadM T_ok hS rfl rfl rfl (by with_reducible repeat (first | exact zS .. | apply zO)) (by rfl) (by rfl) ?_ | refine RL.lsM T_ok hS rfl rfl rfl (by with_reducible repeat (first | exact zS .. | apply zO)) (by rfl) (by rfl) (by rfl) ?_ | (refine RL.N1 ?_; (with_reducible repeat (first | refine QN.B1 ?_ | refine QN.N1 ?_))) | with_reducible refine WP.S1 ?_ | with_reducible refine WP.B1 ?_ | with_reducible refine WP.R1 ?_ | (refine WP.skip ?_; (with_reducible repeat (first | refine QN.B1 ?_ | refine QN.N1 ?_))) | refine WP.condT rfl ?_ | refine WP.condF rfl ?_)
    refine WP.ret ?_; (with_reducible repeat (first | refine QN.tr ?_ | refine QN.br ?_))
    exact QN.ret2 rfl rfl rfl ⟨_, rfl, [_], .inl ⟨hok.symm, _, S2, rfl, rfl⟩, Tr.drop (H := [_]) hS⟩
  have hvc := vclean_canon g.vec
  have htc := (tnorm_canon g.turns).1
  obtain ⟨K, c, n, room, vec, turns, b⟩ := g
  obtain ⟨f1, f2, f3, f4⟩ := hf
  simp only at f1 f2 f3 f4 hvc htc hkk
  have q2 := encS_len room (by omega)
  have q5 := encS_len b (by omega)
  have q4 := encTs_len (tnorm turns) htc
  dsimp only [mC] at hS
  unfold Msg.Ok at hOk
  simp only at hOk
  have hsets : (K = 1 ∨ K = 2) → (vclean vec).length ≤ 16384 ∧ (tnorm turns).length ≤ 16384 := fun hk => by
    rcases hOk with h | h | h
    · exact ⟨h.2.2.2.1, h.2.2.2.2.1⟩
    · omega
    · omega
  rcases hOk with ⟨hk, rfl, rfl, h4, h5, h6⟩ | ⟨hk, rfl, rfl, rfl, rfl, h6, h7, h8⟩ | ⟨hk, rfl, rfl, rfl, rfl, rfl, h6, h7⟩
  · have q3 := encV_len hvc h4
    have q6 := encU_len10 (n := (tnorm turns).length) (by omega)
    have hkk2 : K = 1 ∨ K = 2 := by omega
    have fin : ∃ pre : List UInt8, pre.length ≤ 60 ∧ Msg.enc ⟨K, c, 0, room, vec, turns, []⟩ = (pre ++ encV (vclean vec) ++ encU (tnorm turns).length) ++ (tnorm turns).flatMap encT ∧ ((K = 1 ∧ pre = kb :: (encU c ++ encS room)) ∨ (K = 2 ∧ pre = [kb])) := by
      rcases h6 with ⟨rfl, g1, g2, _, g3, _⟩ | ⟨rfl, rfl, rfl⟩
      · have q1 := encU_len10 (n := c) (by omega)
        refine ⟨kb :: (encU c ++ encS room), by simp only [List.length_cons, zL]; omega, ?_, .inl ⟨rfl, rfl⟩⟩
        rw [henc]
        simp [Msg.enc, encTs]
      · refine ⟨[kb], by simp, ?_, .inr ⟨rfl, rfl⟩⟩
        rw [henc]
        simp [Msg.enc, encTs]
    obtain ⟨pre, hpl, henc2, hpre⟩ := fin
    rw [henc2]
    have hgo : ∃ S2 : List Nat, True := ⟨S1, trivial⟩
    rcases h6 with ⟨rfl, g1, g2, _, g3, _⟩ | ⟨rfl, rfl, rfl⟩
    · obtain rfl : pre = kb :: (encU c ++ encS room) := by
        rcases hpre with h | h
        · exact h.2
        · exact absurd h.1 (by decide)
      have q1 := encU_len10 (n := c) (by omega)
      repeat (first | refine RL.autoP T_ok rfl rfl ?_ | refine RL.loadM T_ok hS rfl rfl rfl (by with_reducible repeat (first | exact zS .. | apply zO)) (by rfl) (by rfl) ?_ | refine RL.lsM T_ok hS rfl rfl rfl (by with_reducible repeat (first | exact zS .. | apply zO)) (by rfl) (by rfl) (by rfl) ?_ | (refine RL.N1 ?_; (with_reducible repeat (first | refine QN.B1 ?_ | refine QN.N1 ?_))) | with_reducible refine WP.S1 ?_ | with_reducible refine WP.B1 ?_ | with_reducible refine WP.R1 ?_ | (refine WP.skip ?_; (with_reducible repeat (first | refine QN.B1 ?_ | refine QN.N1 ?_))) | refine WP.condT rfl ?_ | refine WP.condF rfl ?_)
      refine RL.callM (fi := []) (ca := []) hS (wuint_s c (by omega) b6 S1 [kb] (by simp)) rfl rfl rfl rfl (by repeat (first | with_reducible exact Sels.nil | apply Sels.ro (by with_reducible repeat (first | exact zS .. | apply zO)) (by rfl) | apply Sels.own (by with_reducible repeat (first | exact Sel.head | apply Sel.tail)))) ?_
      (try clear hS); rintro _ m _ ⟨rfl, S2, rfl⟩ hS; (try simp only [zC, zN] at hS); refine ⟨_, rfl, ?_⟩
      repeat (first | refine RL.autoP T_ok rfl rfl ?_ | refine RL.loadM T_ok hS rfl rfl rfl (by with_reducible repeat (first | exact zS .. | apply zO)) (by rfl) (by rfl) ?_ | refine RL.lsM T_ok hS rfl rfl rfl (by with_reducible repeat (first | exact zS .. | apply zO)) (by rfl) (by rfl) (by rfl) ?_ | (refine RL.N1 ?_; (with_reducible repeat (first | refine QN.B1 ?_ | refine QN.N1 ?_))) | with_reducible refine WP.S1 ?_ | with_reducible refine WP.B1 ?_ | with_reducible refine WP.R1 ?_ | (refine WP.skip ?_; (with_reducible repeat (first | refine QN.B1 ?_ | refine QN.N1 ?_))) | refine WP.condT rfl ?_ | refine WP.condF rfl ?_)
      refine RL.callM (fi := []) (ca := []) hS (wtext_s room (by omega) b6 S2 (kb :: encU c) (by simp only [List.length_cons]; omega)) rfl rfl rfl rfl (by repeat (first | with_reducible exact Sels.nil | apply Sels.ro (by with_reducible repeat (first | exact zS .. | apply zO)) (by rfl) | apply Sels.own (by with_reducible repeat (first | exact Sel.head | apply Sel.tail)))) ?_
      (try clear hS); rintro _ m _ ⟨rfl, S3, rfl⟩ hS; (try simp only [zC, zN] at hS); refine ⟨_, rfl, ?_⟩
      repeat (first | refine RL.autoP T_ok rfl rfl ?_ | refine RL.loadM T_ok hS rfl rfl rfl (by with_reducible repeat (first | exact zS .. | apply zO)) (by rfl) (by rfl) ?_ | refine RL.lsM T_ok hS rfl rfl rfl (by with_reducible repeat (first | exact zS .. | apply zO)) (by rfl) (by rfl) (by rfl) ?_ | (refine RL.N1 ?_; (with_reducible repeat (first | refine QN.B1 ?_ | refine QN.N1 ?_))) | with_reducible refine WP.S1 ?_ | with_reducible refine WP.B1 ?_ | with_reducible refine WP.R1 ?_ | (refine WP.skip ?_; (with_reducible repeat (first | refine QN.B1 ?_ | refine QN.N1 ?_))) | refine WP.condT rfl ?_ | refine WP.condF rfl ?_)
      clear hpre hkk2 hk hsets
      generalize kb :: (encU c ++ encS room) = pre at *
      refine RL.callM (fi := []) (ca := []) hS (vwrite_s b6 S3 pre _ vec (by omega) (by omega)) rfl rfl rfl rfl (by repeat (first | with_reducible exact Sels.nil | apply Sels.ro (by with_reducible repeat (first | exact zS .. | apply zO)) (by rfl) | apply Sels.own (by with_reducible repeat (first | exact Sel.head | apply Sel.tail)))) ?_
      (try clear hS); rintro _ m _ ⟨rfl, S4, rfl⟩ hS; (try simp only [zC, zN] at hS); refine ⟨_, rfl, ?_⟩
      repeat (first | refine RL.autoP T_ok rfl rfl ?_ | refine RL.loadM T_ok hS rfl rfl rfl (by with_reducible repeat (first | exact zS .. | apply zO)) (by rfl) (by rfl) ?_ | refine RL.lsM T_ok hS rfl rfl rfl (by with_reducible repeat (first | exact zS .. | apply zO)) (by rfl) (by rfl) (by rfl) ?_ | (refine RL.N1 ?_; (with_reducible repeat (first | refine QN.B1 ?_ | refine QN.N1 ?_))) | with_reducible refine WP.S1 ?_ | with_reducible refine WP.B1 ?_ | with_reducible refine WP.R1 ?_ | (refine WP.skip ?_; (with_reducible repeat (first | refine QN.B1 ?_ | refine QN.N1 ?_))) | refine WP.condT rfl ?_ | refine WP.condF rfl ?_)
      refine RL.callM (fi := []) (ca := []) hS (turnsF_s _ turns (by omega)) rfl rfl rfl rfl (by repeat (first | with_reducible exact Sels.nil | apply Sels.ro (by with_reducible repeat (first | exact zS .. | apply zO)) (by rfl) | apply Sels.own (by with_reducible repeat (first | exact Sel.head | apply Sel.tail)))) ?_
      rintro r m _ ⟨_, S5, rfl⟩ hS
      simp only [zC, zN] at hS
      obtain ⟨A7, c7, rfl, _⟩ := hS.shape
      have hS := hS.freeze (by omega)
      refine ⟨_, rfl, ?_⟩
      repeat (first | refine RL.autoP T_ok rfl rfl ?_ | refine RL.loadM T_ok hS rfl rfl rfl (by with_reducible repeat (first | exact zS .. | apply zO)) (by rfl) (by rfl) ?_ | refine RL.lsM T_ok hS rfl rfl rfl (by with_reducible repeat (first | exact zS .. | apply zO)) (by rfl) (by rfl) (by rfl) ?_ | (refine RL.N1 ?_; (with_reducible repeat (first | refine QN.B1 ?_ | refine QN.N1 ?_))) | with_reducible refine WP.S1 ?_ | with_reducible refine WP.B1 ?_ | with_reducible refine WP.R1 ?_ | (refine WP.skip ?_; (with_reducible repeat (first | refine QN.B1 ?_ | refine QN.N1 ?_))) | refine WP.condT rfl ?_ | refine WP.condF rfl ?_)
      refine RL.eqv (v' := .int .u64 (tnorm turns).length) (zV (wr_u64 _ (by omega))) ?_
      refine RL.callM (fi := []) (ca := []) hS (wuint_s (tnorm turns).length (by omega) b6 S4 (pre ++ encV (vclean vec)) (by simp only [zL]; omega)) rfl rfl rfl rfl (by repeat (first | with_reducible exact Sels.nil | apply Sels.ro (by with_reducible repeat (first | exact zS .. | apply zO)) (by rfl) | apply Sels.own (by with_reducible repeat (first | exact Sel.head | apply Sel.tail)))) ?_
      (try clear hS); rintro _ m _ ⟨rfl, S6, rfl⟩ hS; (try simp only [zC, zN] at hS); refine ⟨_, rfl, ?_⟩
      repeat (first | refine RL.autoP T_ok rfl rfl ?_ | refine RL.loadM T_ok hS rfl rfl rfl (by with_reducible repeat (first | exact zS .. | apply zO)) (by rfl) (by rfl) ?_ | refine RL.lsM T_ok hS rfl rfl rfl (by with_reducible repeat (first | exact zS .. | apply zO)) (by rfl) (by rfl) (by rfl) ?_ | (refine RL.N1 ?_; (with_reducible repeat (first | refine QN.B1 ?_ | refine QN.N1 ?_))) | with_reducible refine WP.S1 ?_ | with_reducible refine WP.B1 ?_ | with_reducible refine WP.R1 ?_ | (refine WP.skip ?_; (with_reducible repeat (first | refine QN.B1 ?_ | refine QN.N1 ?_))) | refine WP.condT rfl ?_ | refine WP.condF rfl ?_)
      have hP0 : (pre ++ encV (vclean vec) ++ encU (tnorm turns).length).length ≤ 500000 := by simp only [zL]; omega
      clear henc hel
      generalize hP1 : pre ++ encV (vclean vec) ++ encU (tnorm turns).length = P1 at *
      generalize tnorm turns = L at *
      refine WP.loop (X := Nat × List Nat) (fun q => [(6, .pointer (some ⟨b6, 0, none⟩)), (58, .slice A7 L.length c7), (59, .int .i64 L.length), (60, .int .i64 q.1)])
        (fun q m => q.1 ≤ L.length ∧ Tr m0 PP X m [wA b6 q.2 (P1 ++ (L.take q.1).flatMap encT), roA 4 (.slice A7 L.length c7) (L.flatMap tC)]) (fun q => L.length - q.1) (0, S6)
        (Sub.C1 rfl (Sub.C1 rfl (Sub.C1 rfl (Sub.C1 rfl Sub.nil)))) ⟨Nat.zero_le _, by simpa using Tr.drop (H := [_, _]) hS⟩ ?_
      clear hS
      rintro ⟨i, S⟩ m ⟨hi, hS⟩
      dsimp only at hi hS ⊢
      have hli := encTs_len (L.take i) (fun x hx => htc x (List.mem_of_mem_take hx))
      have hlt : (L.take i).length ≤ 16384 := by rw [List.length_take]; omega
      (with_reducible repeat (first | refine WP.S1 ?_ | refine WP.B1 ?_ | refine WP.R1 ?_))
      refine RL.A1 T_ok rfl ?_
      refine RL.N1 ?_; (with_reducible repeat (first | refine QN.B1 ?_ | refine QN.N1 ?_ | refine WP.S1 ?_ | refine WP.B1 ?_ | refine WP.R1 ?_))
      refine WP.cond rfl (fun hc => ?_) (fun hc => ?_)
      · have hc : i < L.length := by have := of_decide_eq_true hc; omega
        obtain ⟨w1, w2, w3, w4, w5, w6, w7⟩ := tright_iff.1 (htc L[i] (List.getElem_mem _))
        have l1 := encU_len10 (n := L[i].c) (by omega)
        have l2 := encU_len10 (n := L[i].f) (by omega)
        have l3 := encU_len10 (n := L[i].t) (by omega)
        refine WP.skip ?_; (with_reducible repeat (first | refine QN.B1 ?_ | refine QN.N1 ?_ | refine WP.S1 ?_ | refine WP.B1 ?_ | refine WP.R1 ?_))
        refine RL.index T_ok (hS.mem (A := roA 4 (.slice A7 L.length c7) (L.flatMap tC)) (by with_reducible repeat (first | exact zS .. | apply zO))).1 (k := i) rfl hc rfl rfl rfl rfl (fun ad _ _ hcell => ⟨_, rfl, ?_⟩)
        refine RL.loadAgg T_ok (tC L[i]) rfl rfl rfl (fun j u hu => ?_) rfl ?_
        · have hj : j < 4 := by have := (List.getElem?_eq_some_iff.1 hu).1; simpa [tC] using this
          exact hcell j u (by rw [tsC_get L i hc j hj]; exact hu)
        refine RL.allocS T_ok rfl hS rfl rfl ?_; (try clear hS); intro b9 m hS; refine ⟨_, rfl, ?_⟩
        refine RL.ssM T_ok hS (vs := tC L[i]) rfl rfl rfl rfl rfl (by rfl) (by rfl) (by with_reducible repeat (first | exact Rep.head | apply Rep.tail)) (by rfl) ?_
        (try clear hS); intro m hS
        change Tr m0 PP X m (blkA b9 57 [.int .u64 L[i].c, .int .u64 L[i].f, .int .u64 L[i].t, .int .u64 L[i].n] :: _) at hS
        repeat (first | refine RL.autoP T_ok rfl rfl ?_ | refine RL.loadM T_ok hS rfl rfl rfl (by with_reducible repeat (first | exact zS .. | apply zO)) (by rfl) (by rfl) ?_ | refine RL.lsM T_ok hS rfl rfl rfl (by with_reducible repeat (first | exact zS .. | apply zO)) (by rfl) (by rfl) (by rfl) ?_ | (refine RL.N1 ?_; (with_reducible repeat (first | refine QN.B1 ?_ | refine QN.N1 ?_))) | with_reducible refine WP.S1 ?_ | with_reducible refine WP.B1 ?_ | with_reducible refine WP.R1 ?_ | (refine WP.skip ?_; (with_reducible repeat (first | refine QN.B1 ?_ | refine QN.N1 ?_))) | refine WP.condT rfl ?_ | refine WP.condF rfl ?_)
        refine RL.callM (fi := []) (ca := []) hS (wuint_s L[i].c (by omega) b6 S (P1 ++ (L.take i).flatMap encT) (by simp only [zL]; omega)) rfl rfl rfl rfl (by repeat (first | with_reducible exact Sels.nil | apply Sels.ro (by with_reducible repeat (first | exact zS .. | apply zO)) (by rfl) | apply Sels.own (by with_reducible repeat (first | exact Sel.head | apply Sel.tail)))) ?_
        (try clear hS); rintro _ m _ ⟨rfl, T1, rfl⟩ hS; (try simp only [zC, zN] at hS); refine ⟨_, rfl, ?_⟩
        repeat (first | refine RL.autoP T_ok rfl rfl ?_ | refine RL.loadM T_ok hS rfl rfl rfl (by with_reducible repeat (first | exact zS .. | apply zO)) (by rfl) (by rfl) ?_ | refine RL.lsM T_ok hS rfl rfl rfl (by with_reducible repeat (first | exact zS .. | apply zO)) (by rfl) (by rfl) (by rfl) ?_ | (refine RL.N1 ?_; (with_reducible repeat (first | refine QN.B1 ?_ | refine QN.N1 ?_))) | with_reducible refine WP.S1 ?_ | with_reducible refine WP.B1 ?_ | with_reducible refine WP.R1 ?_ | (refine WP.skip ?_; (with_reducible repeat (first | refine QN.B1 ?_ | refine QN.N1 ?_))) | refine WP.condT rfl ?_ | refine WP.condF rfl ?_)
        refine RL.callM (fi := []) (ca := []) hS (wuint_s L[i].f (by omega) b6 T1 (P1 ++ (L.take i).flatMap encT ++ encU L[i].c) (by simp only [zL]; omega)) rfl rfl rfl rfl (by repeat (first | with_reducible exact Sels.nil | apply Sels.ro (by with_reducible repeat (first | exact zS .. | apply zO)) (by rfl) | apply Sels.own (by with_reducible repeat (first | exact Sel.head | apply Sel.tail)))) ?_
        (try clear hS); rintro _ m _ ⟨rfl, T2, rfl⟩ hS; (try simp only [zC, zN] at hS); refine ⟨_, rfl, ?_⟩
        repeat (first | refine RL.autoP T_ok rfl rfl ?_ | refine RL.loadM T_ok hS rfl rfl rfl (by with_reducible repeat (first | exact zS .. | apply zO)) (by rfl) (by rfl) ?_ | refine RL.lsM T_ok hS rfl rfl rfl (by with_reducible repeat (first | exact zS .. | apply zO)) (by rfl) (by rfl) (by rfl) ?_ | (refine RL.N1 ?_; (with_reducible repeat (first | refine QN.B1 ?_ | refine QN.N1 ?_))) | with_reducible refine WP.S1 ?_ | with_reducible refine WP.B1 ?_ | with_reducible refine WP.R1 ?_ | (refine WP.skip ?_; (with_reducible repeat (first | refine QN.B1 ?_ | refine QN.N1 ?_))) | refine WP.condT rfl ?_ | refine WP.condF rfl ?_)
        refine RL.callM (fi := []) (ca := []) hS (wuint_s L[i].t (by omega) b6 T2 (P1 ++ (L.take i).flatMap encT ++ encU L[i].c ++ encU L[i].f) (by simp only [zL]; omega)) rfl rfl rfl rfl (by repeat (first | with_reducible exact Sels.nil | apply Sels.ro (by with_reducible repeat (first | exact zS .. | apply zO)) (by rfl) | apply Sels.own (by with_reducible repeat (first | exact Sel.head | apply Sel.tail)))) ?_
        (try clear hS); rintro _ m _ ⟨rfl, T3, rfl⟩ hS; (try simp only [zC, zN] at hS); refine ⟨_, rfl, ?_⟩
        repeat (first | refine RL.autoP T_ok rfl rfl ?_ | refine RL.loadM T_ok hS rfl rfl rfl (by with_reducible repeat (first | exact zS .. | apply zO)) (by rfl) (by rfl) ?_ | refine RL.lsM T_ok hS rfl rfl rfl (by with_reducible repeat (first | exact zS .. | apply zO)) (by rfl) (by rfl) (by rfl) ?_ | (refine RL.N1 ?_; (with_reducible repeat (first | refine QN.B1 ?_ | refine QN.N1 ?_))) | with_reducible refine WP.S1 ?_ | with_reducible refine WP.B1 ?_ | with_reducible refine WP.R1 ?_ | (refine WP.skip ?_; (with_reducible repeat (first | refine QN.B1 ?_ | refine QN.N1 ?_))) | refine WP.condT rfl ?_ | refine WP.condF rfl ?_)
        refine RL.callM (fi := []) (ca := []) hS (wuint_s L[i].n (by omega) b6 T3 (P1 ++ (L.take i).flatMap encT ++ encU L[i].c ++ encU L[i].f ++ encU L[i].t) (by simp only [zL]; omega)) rfl rfl rfl rfl (by repeat (first | with_reducible exact Sels.nil | apply Sels.ro (by with_reducible repeat (first | exact zS .. | apply zO)) (by rfl) | apply Sels.own (by with_reducible repeat (first | exact Sel.head | apply Sel.tail)))) ?_
        (try clear hS); rintro _ m _ ⟨rfl, T4, rfl⟩ hS; (try simp only [zC, zN] at hS); refine ⟨_, rfl, ?_⟩
        refine RL.N1 ?_; (with_reducible repeat (first | refine QN.B1 ?_ | refine QN.N1 ?_ | refine WP.S1 ?_ | refine WP.B1 ?_ | refine WP.R1 ?_))
        refine RL.A1 T_ok rfl ?_
        refine RL.N1 (QN.round (i + 1, T4) (Sub.C1 rfl (Sub.C1 rfl (Sub.C1 rfl (Sub.C1 ?_ Sub.nil)))) ⟨by dsimp only; omega, ?_⟩ (by dsimp only; omega))
        · show some (Value.int .i64 (IntKind.i64.wrap ((i : Int) + 1))) = some (Value.int .i64 ((i + 1 : Nat) : Int))
          rw [wrap_i64_in _ (by omega) (by omega)]; rfl
        · dsimp only
          rw [encTs_snoc L i hc]
          exact (hS.perm (List.Perm.refl _)).sels (Pre := [_, _]) (by repeat (first | with_reducible exact Sels.nil | apply Sels.ro (by with_reducible repeat (first | exact zS .. | apply zO)) (by rfl) | apply Sels.own (by with_reducible repeat (first | exact Sel.head | apply Sel.tail)))) |>.drop
      · have hc : i = L.length := by have := of_decide_eq_false hc; omega
        subst hc
        rw [List.take_length] at hS
        refine WP.exit ?_
        (with_reducible repeat (first | refine QN.tx ?_ | refine QN.bx ?_ | refine QN.B1 ?_))
        exact QN.cutEnd S (Sub.C1 rfl Sub.nil) (Tr.drop (H := [_]) hS)
    · obtain rfl : pre = [kb] := by
        rcases hpre with h | h
        · exact absurd h.1 (by decide)
        · exact h.2
      repeat (first | refine RL.autoP T_ok rfl rfl ?_ | refine RL.loadM T_ok hS rfl rfl rfl (by with_reducible repeat (first | exact zS .. | apply zO)) (by rfl) (by rfl) ?_ | refine RL.lsM T_ok hS rfl rfl rfl (by with_reducible repeat (first | exact zS .. | apply zO)) (by rfl) (by rfl) (by rfl) ?_ | (refine RL.N1 ?_; (with_reducible repeat (first | refine QN.B1 ?_ | refine QN.N1 ?_))) | with_reducible refine WP.S1 ?_ | with_reducible refine WP.B1 ?_ | with_reducible refine WP.R1 ?_ | (refine WP.skip ?_; (with_reducible repeat (first | refine QN.B1 ?_ | refine QN.N1 ?_))) | refine WP.condT rfl ?_ | refine WP.condF rfl ?_)
      clear hpre hkk2 hk hsets
      generalize [kb] = pre at *
      refine RL.callM (fi := []) (ca := []) hS (vwrite_s b6 S1 pre _ vec (by omega) (by omega)) rfl rfl rfl rfl (by repeat (first | with_reducible exact Sels.nil | apply Sels.ro (by with_reducible repeat (first | exact zS .. | apply zO)) (by rfl) | apply Sels.own (by with_reducible repeat (first | exact Sel.head | apply Sel.tail)))) ?_
      (try clear hS); rintro _ m _ ⟨rfl, S4, rfl⟩ hS; (try simp only [zC, zN] at hS); refine ⟨_, rfl, ?_⟩
      repeat (first | refine RL.autoP T_ok rfl rfl ?_ | refine RL.loadM T_ok hS rfl rfl rfl (by with_reducible repeat (first | exact zS .. | apply zO)) (by rfl) (by rfl) ?_ | refine RL.lsM T_ok hS rfl rfl rfl (by with_reducible repeat (first | exact zS .. | apply zO)) (by rfl) (by rfl) (by rfl) ?_ | (refine RL.N1 ?_; (with_reducible repeat (first | refine QN.B1 ?_ | refine QN.N1 ?_))) | with_reducible refine WP.S1 ?_ | with_reducible refine WP.B1 ?_ | with_reducible refine WP.R1 ?_ | (refine WP.skip ?_; (with_reducible repeat (first | refine QN.B1 ?_ | refine QN.N1 ?_))) | refine WP.condT rfl ?_ | refine WP.condF rfl ?_)
      refine RL.callM (fi := []) (ca := []) hS (turnsF_s _ turns (by omega)) rfl rfl rfl rfl (by repeat (first | with_reducible exact Sels.nil | apply Sels.ro (by with_reducible repeat (first | exact zS .. | apply zO)) (by rfl) | apply Sels.own (by with_reducible repeat (first | exact Sel.head | apply Sel.tail)))) ?_
      rintro r m _ ⟨_, S5, rfl⟩ hS
      simp only [zC, zN] at hS
      obtain ⟨A7, c7, rfl, _⟩ := hS.shape
      have hS := hS.freeze (by omega)
      refine ⟨_, rfl, ?_⟩
      repeat (first | refine RL.autoP T_ok rfl rfl ?_ | refine RL.loadM T_ok hS rfl rfl rfl (by with_reducible repeat (first | exact zS .. | apply zO)) (by rfl) (by rfl) ?_ | refine RL.lsM T_ok hS rfl rfl rfl (by with_reducible repeat (first | exact zS .. | apply zO)) (by rfl) (by rfl) (by rfl) ?_ | (refine RL.N1 ?_; (with_reducible repeat (first | refine QN.B1 ?_ | refine QN.N1 ?_))) | with_reducible refine WP.S1 ?_ | with_reducible refine WP.B1 ?_ | with_reducible refine WP.R1 ?_ | (refine WP.skip ?_; (with_reducible repeat (first | refine QN.B1 ?_ | refine QN.N1 ?_))) | refine WP.condT rfl ?_ | refine WP.condF rfl ?_)
      refine RL.eqv (v' := .int .u64 (tnorm turns).length) (zV (wr_u64 _ (by omega))) ?_
      refine RL.callM (fi := []) (ca := []) hS (wuint_s (tnorm turns).length (by omega) b6 S4 (pre ++ encV (vclean vec)) (by simp only [zL]; omega)) rfl rfl rfl rfl (by repeat (first | with_reducible exact Sels.nil | apply Sels.ro (by with_reducible repeat (first | exact zS .. | apply zO)) (by rfl) | apply Sels.own (by with_reducible repeat (first | exact Sel.head | apply Sel.tail)))) ?_
      (try clear hS); rintro _ m _ ⟨rfl, S6, rfl⟩ hS; (try simp only [zC, zN] at hS); refine ⟨_, rfl, ?_⟩
      repeat (first | refine RL.autoP T_ok rfl rfl ?_ | refine RL.loadM T_ok hS rfl rfl rfl (by with_reducible repeat (first | exact zS .. | apply zO)) (by rfl) (by rfl) ?_ | refine RL.lsM T_ok hS rfl rfl rfl (by with_reducible repeat (first | exact zS .. | apply zO)) (by rfl) (by rfl) (by rfl) ?_ | (refine RL.N1 ?_; (with_reducible repeat (first | refine QN.B1 ?_ | refine QN.N1 ?_))) | with_reducible refine WP.S1 ?_ | with_reducible refine WP.B1 ?_ | with_reducible refine WP.R1 ?_ | (refine WP.skip ?_; (with_reducible repeat (first | refine QN.B1 ?_ | refine QN.N1 ?_))) | refine WP.condT rfl ?_ | refine WP.condF rfl ?_)
      have hP0 : (pre ++ encV (vclean vec) ++ encU (tnorm turns).length).length ≤ 500000 := by simp only [zL]; omega
      clear henc hel
      generalize hP1 : pre ++ encV (vclean vec) ++ encU (tnorm turns).length = P1 at *
      generalize tnorm turns = L at *
      refine WP.loop (X := Nat × List Nat) (fun q => [(6, .pointer (some ⟨b6, 0, none⟩)), (58, .slice A7 L.length c7), (59, .int .i64 L.length), (60, .int .i64 q.1)])
        (fun q m => q.1 ≤ L.length ∧ Tr m0 PP X m [wA b6 q.2 (P1 ++ (L.take q.1).flatMap encT), roA 4 (.slice A7 L.length c7) (L.flatMap tC)]) (fun q => L.length - q.1) (0, S6)
        (Sub.C1 rfl (Sub.C1 rfl (Sub.C1 rfl (Sub.C1 rfl Sub.nil)))) ⟨Nat.zero_le _, by simpa using Tr.drop (H := [_, _]) hS⟩ ?_
      clear hS
      rintro ⟨i, S⟩ m ⟨hi, hS⟩
      dsimp only at hi hS ⊢
      have hli := encTs_len (L.take i) (fun x hx => htc x (List.mem_of_mem_take hx))
      have hlt : (L.take i).length ≤ 16384 := by rw [List.length_take]; omega
      (with_reducible repeat (first | refine WP.S1 ?_ | refine WP.B1 ?_ | refine WP.R1 ?_))
      refine RL.A1 T_ok rfl ?_
      refine RL.N1 ?_; (with_reducible repeat (first | refine QN.B1 ?_ | refine QN.N1 ?_ | refine WP.S1 ?_ | refine WP.B1 ?_ | refine WP.R1 ?_))
      refine WP.cond rfl (fun hc => ?_) (fun hc => ?_)
      · have hc : i < L.length := by have := of_decide_eq_true hc; omega
        obtain ⟨w1, w2, w3, w4, w5, w6, w7⟩ := tright_iff.1 (htc L[i] (List.getElem_mem _))
        have l1 := encU_len10 (n := L[i].c) (by omega)
        have l2 := encU_len10 (n := L[i].f) (by omega)
        have l3 := encU_len10 (n := L[i].t) (by omega)
        refine WP.skip ?_; (with_reducible repeat (first | refine QN.B1 ?_ | refine QN.N1 ?_ | refine WP.S1 ?_ | refine WP.B1 ?_ | refine WP.R1 ?_))
        refine RL.index T_ok (hS.mem (A := roA 4 (.slice A7 L.length c7) (L.flatMap tC)) (by with_reducible repeat (first | exact zS .. | apply zO))).1 (k := i) rfl hc rfl rfl rfl rfl (fun ad _ _ hcell => ⟨_, rfl, ?_⟩)
        refine RL.loadAgg T_ok (tC L[i]) rfl rfl rfl (fun j u hu => ?_) rfl ?_
        · have hj : j < 4 := by have := (List.getElem?_eq_some_iff.1 hu).1; simpa [tC] using this
          exact hcell j u (by rw [tsC_get L i hc j hj]; exact hu)
        refine RL.allocS T_ok rfl hS rfl rfl ?_; (try clear hS); intro b9 m hS; refine ⟨_, rfl, ?_⟩
        refine RL.ssM T_ok hS (vs := tC L[i]) rfl rfl rfl rfl rfl (by rfl) (by rfl) (by with_reducible repeat (first | exact Rep.head | apply Rep.tail)) (by rfl) ?_
        (try clear hS); intro m hS
        change Tr m0 PP X m (blkA b9 57 [.int .u64 L[i].c, .int .u64 L[i].f, .int .u64 L[i].t, .int .u64 L[i].n] :: _) at hS
        repeat (first | refine RL.autoP T_ok rfl rfl ?_ | refine RL.loadM T_ok hS rfl rfl rfl (by with_reducible repeat (first | exact zS .. | apply zO)) (by rfl) (by rfl) ?_ | refine RL.lsM T_ok hS rfl rfl rfl (by with_reducible repeat (first | exact zS .. | apply zO)) (by rfl) (by rfl) (by rfl) ?_ | (refine RL.N1 ?_; (with_reducible repeat (first | refine QN.B1 ?_ | refine QN.N1 ?_))) | with_reducible refine WP.S1 ?_ | with_reducible refine WP.B1 ?_ | with_reducible refine WP.R1 ?_ | (refine WP.skip ?_; (with_reducible repeat (first | refine QN.B1 ?_ | refine QN.N1 ?_))) | refine WP.condT rfl ?_ | refine WP.condF rfl ?_)
        refine RL.callM (fi := []) (ca := []) hS (wuint_s L[i].c (by omega) b6 S (P1 ++ (L.take i).flatMap encT) (by simp only [zL]; omega)) rfl rfl rfl rfl (by repeat (first | with_reducible exact Sels.nil | apply Sels.ro (by with_reducible repeat (first | exact zS .. | apply zO)) (by rfl) | apply Sels.own (by with_reducible repeat (first | exact Sel.head | apply Sel.tail)))) ?_
        (try clear hS); rintro _ m _ ⟨rfl, T1, rfl⟩ hS; (try simp only [zC, zN] at hS); refine ⟨_, rfl, ?_⟩
        repeat (first | refine RL.autoP T_ok rfl rfl ?_ | refine RL.loadM T_ok hS rfl rfl rfl (by with_reducible repeat (first | exact zS .. | apply zO)) (by rfl) (by rfl) ?_ | refine RL.lsM T_ok hS rfl rfl rfl (by with_reducible repeat (first | exact zS .. | apply zO)) (by rfl) (by rfl) (by rfl) ?_ | (refine RL.N1 ?_; (with_reducible repeat (first | refine QN.B1 ?_ | refine QN.N1 ?_))) | with_reducible refine WP.S1 ?_ | with_reducible refine WP.B1 ?_ | with_reducible refine WP.R1 ?_ | (refine WP.skip ?_; (with_reducible repeat (first | refine QN.B1 ?_ | refine QN.N1 ?_))) | refine WP.condT rfl ?_ | refine WP.condF rfl ?_)
        refine RL.callM (fi := []) (ca := []) hS (wuint_s L[i].f (by omega) b6 T1 (P1 ++ (L.take i).flatMap encT ++ encU L[i].c) (by simp only [zL]; omega)) rfl rfl rfl rfl (by repeat (first | with_reducible exact Sels.nil | apply Sels.ro (by with_reducible repeat (first | exact zS .. | apply zO)) (by rfl) | apply Sels.own (by with_reducible repeat (first | exact Sel.head | apply Sel.tail)))) ?_
        (try clear hS); rintro _ m _ ⟨rfl, T2, rfl⟩ hS; (try simp only [zC, zN] at hS); refine ⟨_, rfl, ?_⟩
        repeat (first | refine RL.autoP T_ok rfl rfl ?_ | refine RL.loadM T_ok hS rfl rfl rfl (by with_reducible repeat (first | exact zS .. | apply zO)) (by rfl) (by rfl) ?_ | refine RL.lsM T_ok hS rfl rfl rfl (by with_reducible repeat (first | exact zS .. | apply zO)) (by rfl) (by rfl) (by rfl) ?_ | (refine RL.N1 ?_; (with_reducible repeat (first | refine QN.B1 ?_ | refine QN.N1 ?_))) | with_reducible refine WP.S1 ?_ | with_reducible refine WP.B1 ?_ | with_reducible refine WP.R1 ?_ | (refine WP.skip ?_; (with_reducible repeat (first | refine QN.B1 ?_ | refine QN.N1 ?_))) | refine WP.condT rfl ?_ | refine WP.condF rfl ?_)
        refine RL.callM (fi := []) (ca := []) hS (wuint_s L[i].t (by omega) b6 T2 (P1 ++ (L.take i).flatMap encT ++ encU L[i].c ++ encU L[i].f) (by simp only [zL]; omega)) rfl rfl rfl rfl (by repeat (first | with_reducible exact Sels.nil | apply Sels.ro (by with_reducible repeat (first | exact zS .. | apply zO)) (by rfl) | apply Sels.own (by with_reducible repeat (first | exact Sel.head | apply Sel.tail)))) ?_
        (try clear hS); rintro _ m _ ⟨rfl, T3, rfl⟩ hS; (try simp only [zC, zN] at hS); refine ⟨_, rfl, ?_⟩
        repeat (first | refine RL.autoP T_ok rfl rfl ?_ | refine RL.loadM T_ok hS rfl rfl rfl (by with_reducible repeat (first | exact zS .. | apply zO)) (by rfl) (by rfl) ?_ | refine RL.lsM T_ok hS rfl rfl rfl (by with_reducible repeat (first | exact zS .. | apply zO)) (by rfl) (by rfl) (by rfl) ?_ | (refine RL.N1 ?_; (with_reducible repeat (first | refine QN.B1 ?_ | refine QN.N1 ?_))) | with_reducible refine WP.S1 ?_ | with_reducible refine WP.B1 ?_ | with_reducible refine WP.R1 ?_ | (refine WP.skip ?_; (with_reducible repeat (first | refine QN.B1 ?_ | refine QN.N1 ?_))) | refine WP.condT rfl ?_ | refine WP.condF rfl ?_)
        refine RL.callM (fi := []) (ca := []) hS (wuint_s L[i].n (by omega) b6 T3 (P1 ++ (L.take i).flatMap encT ++ encU L[i].c ++ encU L[i].f ++ encU L[i].t) (by simp only [zL]; omega)) rfl rfl rfl rfl (by repeat (first | with_reducible exact Sels.nil | apply Sels.ro (by with_reducible repeat (first | exact zS .. | apply zO)) (by rfl) | apply Sels.own (by with_reducible repeat (first | exact Sel.head | apply Sel.tail)))) ?_
        (try clear hS); rintro _ m _ ⟨rfl, T4, rfl⟩ hS; (try simp only [zC, zN] at hS); refine ⟨_, rfl, ?_⟩
        refine RL.N1 ?_; (with_reducible repeat (first | refine QN.B1 ?_ | refine QN.N1 ?_ | refine WP.S1 ?_ | refine WP.B1 ?_ | refine WP.R1 ?_))
        refine RL.A1 T_ok rfl ?_
        refine RL.N1 (QN.round (i + 1, T4) (Sub.C1 rfl (Sub.C1 rfl (Sub.C1 rfl (Sub.C1 ?_ Sub.nil)))) ⟨by dsimp only; omega, ?_⟩ (by dsimp only; omega))
        · show some (Value.int .i64 (IntKind.i64.wrap ((i : Int) + 1))) = some (Value.int .i64 ((i + 1 : Nat) : Int))
          rw [wrap_i64_in _ (by omega) (by omega)]; rfl
        · dsimp only
          rw [encTs_snoc L i hc]
          exact (hS.perm (List.Perm.refl _)).sels (Pre := [_, _]) (by repeat (first | with_reducible exact Sels.nil | apply Sels.ro (by with_reducible repeat (first | exact zS .. | apply zO)) (by rfl) | apply Sels.own (by with_reducible repeat (first | exact Sel.head | apply Sel.tail)))) |>.drop
      · have hc : i = L.length := by have := of_decide_eq_false hc; omega
        subst hc
        rw [List.take_length] at hS
        refine WP.exit ?_
        (with_reducible repeat (first | refine QN.tx ?_ | refine QN.bx ?_ | refine QN.B1 ?_))
        exact QN.cutEnd S (Sub.C1 rfl Sub.nil) (Tr.drop (H := [_]) hS)
  · have q1 := encU_len10 (n := n) (by omega)
    rcases hk with rfl | rfl
    · repeat (first | refine RL.autoP T_ok rfl rfl ?_ | refine RL.loadM T_ok hS rfl rfl rfl (by with_reducible repeat (first | exact zS .. | apply zO)) (by rfl) (by rfl) ?_ | refine RL.lsM T_ok hS rfl rfl rfl (by with_reducible repeat (first | exact zS .. | apply zO)) (by rfl) (by rfl) (by rfl) ?_ | (refine RL.N1 ?_; (with_reducible repeat (first | refine QN.B1 ?_ | refine QN.N1 ?_))) | with_reducible refine WP.S1 ?_ | with_reducible refine WP.B1 ?_ | with_reducible refine WP.R1 ?_ | (refine WP.skip ?_; (with_reducible repeat (first | refine QN.B1 ?_ | refine QN.N1 ?_))) | refine WP.condT rfl ?_ | refine WP.condF rfl ?_)
      refine RL.callM (fi := []) (ca := []) hS (wuint_s n (by omega) b6 S1 [kb] (by simp)) rfl rfl rfl rfl (by repeat (first | with_reducible exact Sels.nil | apply Sels.ro (by with_reducible repeat (first | exact zS .. | apply zO)) (by rfl) | apply Sels.own (by with_reducible repeat (first | exact Sel.head | apply Sel.tail)))) ?_
      (try clear hS); rintro _ m _ ⟨rfl, S2, rfl⟩ hS; (try simp only [zC, zN] at hS); refine ⟨_, rfl, ?_⟩
      repeat (first | refine RL.autoP T_ok rfl rfl ?_ | refine RL.loadM T_ok hS rfl rfl rfl (by with_reducible repeat (first | exact zS .. | apply zO)) (by rfl) (by rfl) ?_ | refine RL.lsM T_ok hS rfl rfl rfl (by with_reducible repeat (first | exact zS .. | apply zO)) (by rfl) (by rfl) (by rfl) ?_ | (refine RL.N1 ?_; (with_reducible repeat (first | refine QN.B1 ?_ | refine QN.N1 ?_))) | with_reducible refine WP.S1 ?_ | with_reducible refine WP.B1 ?_ | with_reducible refine WP.R1 ?_ | (refine WP.skip ?_; (with_reducible repeat (first | refine QN.B1 ?_ | refine QN.N1 ?_))) | refine WP.condT rfl ?_ | refine WP.condF rfl ?_)
      refine RL.bytesString T_ok (hS.mem (A := roA 1 bv (u8s b)) (by with_reducible repeat (first | exact zS .. | apply zO))).1 rfl rfl rfl rfl rfl rfl ?_
      refine RL.callM (fi := []) (ca := []) hS (wtext_s b (by omega) b6 S2 (kb :: encU n) (by simp only [List.length_cons]; omega)) rfl rfl rfl rfl (by repeat (first | with_reducible exact Sels.nil | apply Sels.ro (by with_reducible repeat (first | exact zS .. | apply zO)) (by rfl) | apply Sels.own (by with_reducible repeat (first | exact Sel.head | apply Sel.tail)))) ?_
      (try clear hS); rintro _ m _ ⟨rfl, S3, rfl⟩ hS; (try simp only [zC, zN] at hS); refine ⟨_, rfl, ?_⟩
      refine RL.N1 ?_
      (with_reducible repeat (first | refine QN.B1 ?_))
      refine QN.cutEnd S3 (Sub.C1 rfl Sub.nil) ?_
      have e : Msg.enc ⟨3, 0, n, [], [], [], b⟩ = kb :: (encU n ++ encS b) := by rw [henc]; rfl
      rw [e]; exact Tr.drop (H := [_]) hS
    · obtain rfl := h8 rfl
      repeat (first | refine RL.autoP T_ok rfl rfl ?_ | refine RL.loadM T_ok hS rfl rfl rfl (by with_reducible repeat (first | exact zS .. | apply zO)) (by rfl) (by rfl) ?_ | refine RL.lsM T_ok hS rfl rfl rfl (by with_reducible repeat (first | exact zS .. | apply zO)) (by rfl) (by rfl) (by rfl) ?_ | (refine RL.N1 ?_; (with_reducible repeat (first | refine QN.B1 ?_ | refine QN.N1 ?_))) | with_reducible refine WP.S1 ?_ | with_reducible refine WP.B1 ?_ | with_reducible refine WP.R1 ?_ | (refine WP.skip ?_; (with_reducible repeat (first | refine QN.B1 ?_ | refine QN.N1 ?_))) | refine WP.condT rfl ?_ | refine WP.condF rfl ?_)
      refine RL.bytesString T_ok (hS.mem (A := roA 1 bv (u8s b)) (by with_reducible repeat (first | exact zS .. | apply zO))).1 rfl rfl rfl rfl rfl rfl ?_
      refine RL.callM (fi := []) (ca := []) hS (wtext_s b (by omega) b6 S1 [kb] (by simp)) rfl rfl rfl rfl (by repeat (first | with_reducible exact Sels.nil | apply Sels.ro (by with_reducible repeat (first | exact zS .. | apply zO)) (by rfl) | apply Sels.own (by with_reducible repeat (first | exact Sel.head | apply Sel.tail)))) ?_
      (try clear hS); rintro _ m _ ⟨rfl, S3, rfl⟩ hS; (try simp only [zC, zN] at hS); refine ⟨_, rfl, ?_⟩
      refine RL.N1 ?_
      (with_reducible repeat (first | refine QN.B1 ?_))
      refine QN.cutEnd S3 (Sub.C1 rfl Sub.nil) ?_
      have e : Msg.enc ⟨5, 0, 0, [], [], [], b⟩ = kb :: encS b := by rw [henc]; rfl
      rw [e]; exact Tr.drop (H := [_]) hS
  · have q1 := encU_len10 (n := n) (by omega)
    rcases hk with rfl | rfl
    all_goals
      repeat (first | refine RL.autoP T_ok rfl rfl ?_ | refine RL.loadM T_ok hS rfl rfl rfl (by with_reducible repeat (first | exact zS .. | apply zO)) (by rfl) (by rfl) ?_ | refine RL.lsM T_ok hS rfl rfl rfl (by with_reducible repeat (first | exact zS .. | apply zO)) (by rfl) (by rfl) (by rfl) ?_ | (refine RL.N1 ?_; (with_reducible repeat (first | refine QN.B1 ?_ | refine QN.N1 ?_))) | with_reducible refine WP.S1 ?_ | with_reducible refine WP.B1 ?_ | with_reducible refine WP.R1 ?_ | (refine WP.skip ?_; (with_reducible repeat (first | refine QN.B1 ?_ | refine QN.N1 ?_))) | refine WP.condT rfl ?_ | refine WP.condF rfl ?_)
      refine RL.callM (fi := []) (ca := []) hS (wuint_s n (by omega) b6 S1 [kb] (by simp)) rfl rfl rfl rfl (by repeat (first | with_reducible exact Sels.nil | apply Sels.ro (by with_reducible repeat (first | exact zS .. | apply zO)) (by rfl) | apply Sels.own (by with_reducible repeat (first | exact Sel.head | apply Sel.tail)))) ?_
      (try clear hS); rintro _ m _ ⟨rfl, S3, rfl⟩ hS; (try simp only [zC, zN] at hS); refine ⟨_, rfl, ?_⟩
      refine RL.N1 ?_
      (with_reducible repeat (first | refine QN.B1 ?_))
      refine QN.cutEnd S3 (Sub.C1 rfl Sub.nil) ?_
    · have e : Msg.enc ⟨4, 0, n, [], [], [], []⟩ = kb :: encU n := by rw [henc]; rfl
      rw [e]; exact Tr.drop (H := [_]) hS
    · have e : Msg.enc ⟨6, 0, n, [], [], [], []⟩ = kb :: encU n := by rw [henc]; rfl
      rw [e]; exact Tr.drop (H := [_]) hS
end Go.Proofs.YtmjpcaiehfimgaaGreatDoor
end
section
namespace Go.Proofs.YtmjpcaiehfimgaaGreatDoor
open Go.RowKit Go.Ev Go.Ids
def mbrk : List PanicEntry := [{ v := .iface 65 (.agg #[]), recovered := false }]
theorem mustT_s : DoS Tryz.prog 33 [.bool true] [] (fun v H => v = .tuple #[] ∧ H = []) := by
  intro m0 X hS
  refine FnE.enter ⟨_, Tryz.func33, by kernel_rfl, by kernel_rfl⟩ Tryz.func33 rfl rfl ?_
  repeat (first | refine RL.autoP T_ok rfl rfl ?_ | refine RL.loadM T_ok hS rfl rfl rfl (by with_reducible repeat (first | exact zS .. | apply zO)) (by rfl) (by rfl) ?_ | refine RL.lsM T_ok hS rfl rfl rfl (by with_reducible repeat (first | exact zS .. | apply zO)) (by rfl) (by rfl) (by rfl) ?_ | (refine RL.N1 ?_; (with_reducible repeat (first | refine QN.B1 ?_ | refine QN.N1 ?_))) | with_reducible refine WP.S1 ?_ | with_reducible refine WP.B1 ?_ | with_reducible refine WP.R1 ?_ | (refine WP.skip ?_; (with_reducible repeat (first | refine QN.B1 ?_ | refine QN.N1 ?_))) | refine WP.condT rfl ?_ | refine WP.condF rfl ?_)
  exact QN.end0 rfl ⟨_, rfl, [], ⟨rfl, rfl⟩, hS⟩
theorem mustF_s : DoE Tryz.prog 33 [.bool false] [] (fun ed H => ed = .panicked mbrk ∧ H = []) := by
  intro m0 X hS
  refine FnE.enter ⟨_, Tryz.func33, by kernel_rfl, by kernel_rfl⟩ Tryz.func33 rfl rfl ?_
  repeat (first | refine RL.autoP T_ok rfl rfl ?_ | refine RL.loadM T_ok hS rfl rfl rfl (by with_reducible repeat (first | exact zS .. | apply zO)) (by rfl) (by rfl) ?_ | refine RL.lsM T_ok hS rfl rfl rfl (by with_reducible repeat (first | exact zS .. | apply zO)) (by rfl) (by rfl) (by rfl) ?_ | (refine RL.N1 ?_; (with_reducible repeat (first | refine QN.B1 ?_ | refine QN.N1 ?_))) | with_reducible refine WP.S1 ?_ | with_reducible refine WP.B1 ?_ | with_reducible refine WP.R1 ?_ | (refine WP.skip ?_; (with_reducible repeat (first | refine QN.B1 ?_ | refine QN.N1 ?_))) | refine WP.condT rfl ?_ | refine WP.condF rfl ?_)
  exact RL.panic rfl rfl rfl (QN.panic ⟨[], ⟨rfl, rfl⟩, hS⟩)
theorem QN.retC {P : Program} {fn : Func} {post : Ending → World → Prop} {T : Ty} (hT : T.Ok P) {n : Nat} {e : Env} {m0 m : World} {M0 X : List Nat} {H : List Asn} {t : Tmp} {ty tb : TypeId} {b : Nat} {cs : List Value} (hS : Tr m0 M0 X m H) (hr : fn.results = #[.cell t ty]) (ht : e.get t = some (.pointer (some ⟨b, 0, none⟩)))
    (hty : T.aggN ty = some cs.length) (hB : blkA b tb cs ∈ H) (h : post (.returned (.agg cs.toArray)) m) : QN (bodyQ P fn post) .ret n e ⟨[], none⟩ m := by
  intro a w hf hs
  refine ⟨hf.defers, .agg cs.toArray, ?_, m, hs, h⟩
  obtain ⟨r, hr', ha, hsz⟩ := Ty.aggN_spec hty
  have h1 := (hT.row hr').run_isAgg (TyK.known_of_agg ha) w
  rw [ha] at h1
  have h2 := (hT.row hr').run_size w
  rw [hsz] at h2
  have h3 := run_loadCells_list (P := P) w ⟨b, 0, none⟩ cs (fun j x hx => (hs.cell _).trans (by rw [add_block, Nat.zero_add]; exact Blk.cell (hS.mem hB) j hx))
  simp [results, hr, hf.get t _ ht, asAddr, loadVar, h1, h2, h3]
theorem rdB_len (s : St) : (rdB s).2.1.length ≤ s.1.length := gR_le _ _ _ _ fun _ _ h => rdByte_le h
theorem rdN_len (most : Nat) (s : St) : (rdN most s).2.1.length ≤ s.1.length := gR_le _ _ _ _ fun _ _ h => rdU_le h
theorem rdT_len (most : Nat) (s : St) : (rdT most s).2.1.length ≤ s.1.length ∧ (rdT most s).1.length ≤ s.1.length := by
  refine ⟨gR_le _ _ _ _ fun _ _ h => rdText_le h, ?_⟩
  unfold rdT gR
  split
  · split
    · rename_i a l' h
      unfold rdText at h
      split at h
      · cases h
      · rename_i n l2 h2
        have := rdU_le h2
        split at h
        · simp only [Except.ok.injEq, Prod.mk.injEq] at h
          obtain ⟨rfl, _⟩ := h
          simp; omega
        · cases h
    · simp
  · simp
def rdAll (r : Option (Msg × St)) : Option Msg := match r with
  | none => none
  | some (m, l, e) => if e = 0 ∧ l = [] then some m else none
def MReadP (r : Option Msg) (ed : Ending) (H : List Asn) : Prop := match r with
  | none => ed = .panicked mbrk ∧ H = []
  | some m => ∃ vv tv bv, ed = .returned (.agg (mC m vv tv bv).toArray) ∧ H = mR m vv tv bv
set_option maxRecDepth 20000 in
theorem mread_s (b : Nat) (l0 : List UInt8) (e0 : Int) (hl : l0.length < 100000000) : DoE Tryz.prog 31 [.pointer (some ⟨b, 0, none⟩)] [rdA b l0 e0] (MReadP (rdAll (rdP (l0, e0)))) := by
  intro m0 X hS
  obtain ⟨PP, hP⟩ : ∃ PP, ofps [rdA b l0 e0] = PP := ⟨_, rfl⟩
  rw [hP] at hS ⊢
  clear hP
  obtain ⟨R, hR⟩ : ∃ R, rdP (l0, e0) = R := ⟨_, rfl⟩
  rw [hR]
  unfold rdP at hR
  refine FnE.enter ⟨_, Tryz.func31, by kernel_rfl, by kernel_rfl⟩ Tryz.func31 rfl rfl ?_
  (with_reducible repeat (first | refine WP.S1 ?_ | refine WP.B1 ?_ | refine WP.R1 ?_))
  refine RL.allocS T_ok rfl hS rfl rfl ?_; (try clear hS); intro b2 m hS; refine ⟨_, rfl, ?_⟩
  refine RL.N1 ?_; (with_reducible repeat (first | refine QN.B1 ?_ | refine QN.N1 ?_ | refine WP.S1 ?_ | refine WP.B1 ?_ | refine WP.R1 ?_))
  refine RL.A1 T_ok rfl ?_
  refine RL.callM (fi := []) (ca := []) hS (rbyte_s b l0 e0) rfl rfl rfl rfl (by repeat (first | with_reducible exact Sels.nil | apply Sels.ro (by with_reducible repeat (first | exact zS .. | apply zO)) (by rfl) | apply Sels.own (by with_reducible repeat (first | exact Sel.head | apply Sel.tail)))) ?_
  (try clear hS); rintro _ m _ ⟨rfl, rfl⟩ hS; (try simp only [zC, zN] at hS); refine ⟨_, rfl, ?_⟩
  have hl1 := rdB_len (l0, e0)
  obtain ⟨q, hq⟩ : ∃ q, rdB (l0, e0) = q := ⟨_, rfl⟩
  rw [hq] at hS hl1 hR ⊢
  clear hq
  obtain ⟨k, l1, e1⟩ := q
  dsimp only at hR hS hl1 ⊢
  have hk := k.toNat_lt
  refine RL.pure T_ok 1 rfl ?_
  refine RL.eqv (v' := .int .i64 (k.toNat : Nat)) (zV (wrap_i64_in _ (by omega) (by omega))) ?_
  refine RL.A1 T_ok rfl ?_
  refine RL.allocS T_ok rfl hS rfl rfl ?_; (try clear hS); intro b3 m hS; refine ⟨_, rfl, ?_⟩
  refine RL.ssM T_ok hS rfl rfl rfl rfl rfl (by rfl) (by rfl) (by with_reducible repeat (first | exact Rep.head | apply Rep.tail)) (by rfl) ?_; (try clear hS); intro m hS
  change Tr m0 PP X m (blkA b3 27 [.int .i64 (k.toNat : Nat), .int .u64 0, .int .u64 0, .string (str []), .slice none 0 0, .slice none 0 0, .slice none 0 0] :: _) at hS
  refine RL.N1 ?_
  (with_reducible repeat (first | refine QN.B1 ?_ | refine QN.N1 ?_))
  -- what is read, and what is left
  refine WP.cut (X := Msg × List UInt8 × Int × Value × Value × Value) (fun q => [(0, .pointer (some ⟨b, 0, none⟩)), (2, .pointer (some ⟨b2, 0, none⟩)), (3, .pointer (some ⟨b3, 0, none⟩))])
    (fun q m => R = some (q.1, q.2.1, q.2.2.1) ∧ Tr m0 PP X m ([rdA b q.2.1 q.2.2.1, blkA b3 27 (mC q.1 q.2.2.2.1 q.2.2.2.2.1 q.2.2.2.2.2), blkA b2 27 [.int .i64 0, .int .u64 0, .int .u64 0, .string (str []), .slice none 0 0, .slice none 0 0, .slice none 0 0]] ++ mR q.1 q.2.2.2.1 q.2.2.2.2.1 q.2.2.2.2.2)) ?_ ?_
  rotate_left
  · rintro ⟨g, l, e, vv, tv, bv⟩ m ⟨hq, hS⟩
    dsimp only at hq hS ⊢
    subst hq
    simp only [mR, zC, zN] at hS
    have bad : ∀ m H, ¬ (e = 0 ∧ l = []) → Tr m0 PP X m H → ∃ H', MReadP (rdAll (some (g, l, e))) (.panicked mbrk) H' ∧ Tr m0 PP X m H' := fun m H h hS => ⟨[], by unfold rdAll; dsimp only; rw [if_neg h]; exact ⟨rfl, rfl⟩, Tr.drop (H := []) hS⟩
    repeat (first | refine RL.autoP T_ok rfl rfl ?_ | refine RL.loadM T_ok hS rfl rfl rfl (by with_reducible repeat (first | exact zS .. | apply zO)) (by rfl) (by rfl) ?_ | refine RL.lsM T_ok hS rfl rfl rfl (by with_reducible repeat (first | exact zS .. | apply zO)) (by rfl) (by rfl) (by rfl) ?_ | (refine RL.N1 ?_; (with_reducible repeat (first | refine QN.B1 ?_ | refine QN.N1 ?_))) | with_reducible refine WP.S1 ?_ | with_reducible refine WP.B1 ?_ | with_reducible refine WP.R1 ?_ | (refine WP.skip ?_; (with_reducible repeat (first | refine QN.B1 ?_ | refine QN.N1 ?_))) | refine WP.condT rfl ?_ | refine WP.condF rfl ?_)
    refine RL.callM (fi := []) (ca := []) hS (rerr_s b l e) rfl rfl rfl rfl (by repeat (first | with_reducible exact Sels.nil | apply Sels.ro (by with_reducible repeat (first | exact zS .. | apply zO)) (by rfl) | apply Sels.own (by with_reducible repeat (first | exact Sel.head | apply Sel.tail)))) ?_
    (try clear hS); rintro _ m _ ⟨rfl, rfl⟩ hS; (try simp only [zC, zN] at hS); refine ⟨_, rfl, ?_⟩
    refine RL.pure T_ok 1 rfl ?_
    by_cases he : e = 0
    rotate_left
    · refine RL.eqv (v' := .bool false) (zV (bF he)) ?_
      repeat (first | refine RL.autoP T_ok rfl rfl ?_ | refine RL.loadM T_ok hS rfl rfl rfl (by with_reducible repeat (first | exact zS .. | apply zO)) (by rfl) (by rfl) ?_ | refine RL.lsM T_ok hS rfl rfl rfl (by with_reducible repeat (first | exact zS .. | apply zO)) (by rfl) (by rfl) (by rfl) ?_ | (refine RL.N1 ?_; (with_reducible repeat (first | refine QN.B1 ?_ | refine QN.N1 ?_))) | with_reducible refine WP.S1 ?_ | with_reducible refine WP.B1 ?_ | with_reducible refine WP.R1 ?_ | (refine WP.skip ?_; (with_reducible repeat (first | refine QN.B1 ?_ | refine QN.N1 ?_))) | refine WP.condT rfl ?_ | refine WP.condF rfl ?_)
      refine RL.callPM (fi := []) (ca := []) hS mustF_s rfl rfl rfl rfl (by repeat (first | with_reducible exact Sels.nil | apply Sels.ro (by with_reducible repeat (first | exact zS .. | apply zO)) (by rfl) | apply Sels.own (by with_reducible repeat (first | exact Sel.head | apply Sel.tail)))) (fun m hS => ?_)
      (with_reducible repeat (first | refine QN.tp ?_ | refine QN.bp ?_))
      exact QN.panic (bad _ _ (fun h => he h.1) hS)
    refine RL.eqv (v' := .bool true) (zV (beq_iff_eq.2 he)) ?_
    repeat (first | refine RL.autoP T_ok rfl rfl ?_ | refine RL.loadM T_ok hS rfl rfl rfl (by with_reducible repeat (first | exact zS .. | apply zO)) (by rfl) (by rfl) ?_ | refine RL.lsM T_ok hS rfl rfl rfl (by with_reducible repeat (first | exact zS .. | apply zO)) (by rfl) (by rfl) (by rfl) ?_ | (refine RL.N1 ?_; (with_reducible repeat (first | refine QN.B1 ?_ | refine QN.N1 ?_))) | with_reducible refine WP.S1 ?_ | with_reducible refine WP.B1 ?_ | with_reducible refine WP.R1 ?_ | (refine WP.skip ?_; (with_reducible repeat (first | refine QN.B1 ?_ | refine QN.N1 ?_))) | refine WP.condT rfl ?_ | refine WP.condF rfl ?_)
    refine RL.callM (fi := []) (ca := []) hS (rleft_s b l e) rfl rfl rfl rfl (by repeat (first | with_reducible exact Sels.nil | apply Sels.ro (by with_reducible repeat (first | exact zS .. | apply zO)) (by rfl) | apply Sels.own (by with_reducible repeat (first | exact Sel.head | apply Sel.tail)))) ?_
    (try clear hS); rintro _ m _ ⟨rfl, rfl⟩ hS; (try simp only [zC, zN] at hS); refine ⟨_, rfl, ?_⟩
    refine RL.pure T_ok 1 rfl ?_
    by_cases hl0 : l = []
    rotate_left
    · refine RL.eqv (v' := .bool false) (zV (bF (by have := List.length_pos_iff.2 hl0; omega))) ?_
      repeat (first | refine RL.autoP T_ok rfl rfl ?_ | refine RL.loadM T_ok hS rfl rfl rfl (by with_reducible repeat (first | exact zS .. | apply zO)) (by rfl) (by rfl) ?_ | refine RL.lsM T_ok hS rfl rfl rfl (by with_reducible repeat (first | exact zS .. | apply zO)) (by rfl) (by rfl) (by rfl) ?_ | (refine RL.N1 ?_; (with_reducible repeat (first | refine QN.B1 ?_ | refine QN.N1 ?_))) | with_reducible refine WP.S1 ?_ | with_reducible refine WP.B1 ?_ | with_reducible refine WP.R1 ?_ | (refine WP.skip ?_; (with_reducible repeat (first | refine QN.B1 ?_ | refine QN.N1 ?_))) | refine WP.condT rfl ?_ | refine WP.condF rfl ?_)
      refine RL.callPM (fi := []) (ca := []) hS mustF_s rfl rfl rfl rfl (by repeat (first | with_reducible exact Sels.nil | apply Sels.ro (by with_reducible repeat (first | exact zS .. | apply zO)) (by rfl) | apply Sels.own (by with_reducible repeat (first | exact Sel.head | apply Sel.tail)))) (fun m hS => ?_)
      (with_reducible repeat (first | refine QN.tp ?_ | refine QN.bp ?_))
      exact QN.panic (bad _ _ (fun h => hl0 h.2) hS)
    refine RL.eqv (v' := .bool true) (zV (beq_iff_eq.2 (by rw [hl0]; rfl))) ?_
    repeat (first | refine RL.autoP T_ok rfl rfl ?_ | refine RL.loadM T_ok hS rfl rfl rfl (by with_reducible repeat (first | exact zS .. | apply zO)) (by rfl) (by rfl) ?_ | refine RL.lsM T_ok hS rfl rfl rfl (by with_reducible repeat (first | exact zS .. | apply zO)) (by rfl) (by rfl) (by rfl) ?_ | (refine RL.N1 ?_; (with_reducible repeat (first | refine QN.B1 ?_ | refine QN.N1 ?_))) | with_reducible refine WP.S1 ?_ | with_reducible refine WP.B1 ?_ | with_reducible refine WP.R1 ?_ | (refine WP.skip ?_; (with_reducible repeat (first | refine QN.B1 ?_ | refine QN.N1 ?_))) | refine WP.condT rfl ?_ | refine WP.condF rfl ?_)
    refine RL.callM (fi := []) (ca := []) hS mustT_s rfl rfl rfl rfl (by repeat (first | with_reducible exact Sels.nil | apply Sels.ro (by with_reducible repeat (first | exact zS .. | apply zO)) (by rfl) | apply Sels.own (by with_reducible repeat (first | exact Sel.head | apply Sel.tail)))) ?_
    (try clear hS); rintro _ m _ ⟨rfl, rfl⟩ hS; (try simp only [zN] at hS); refine ⟨_, rfl, ?_⟩
    refine RL.N1 ?_; (with_reducible repeat (first | refine QN.B1 ?_ | refine QN.N1 ?_ | refine WP.S1 ?_ | refine WP.B1 ?_ | refine WP.R1 ?_))
    refine RL.lsM T_ok hS (cs := mC g vv tv bv) (vs := mC g vv tv bv) rfl rfl rfl (by with_reducible repeat (first | exact zS .. | apply zO)) rfl rfl rfl ?_
    refine RL.ssM T_ok hS (vs := mC g vv tv bv) rfl rfl rfl rfl rfl ?_ (by rfl) (by with_reducible repeat (first | exact Rep.head | apply Rep.tail)) (by rfl) ?_
    · simp only [mC, List.all_cons, List.all_nil, (hS.mem (A := roA 2 vv (g.vec.flatMap cC)) (by simp)).1.one, (hS.mem (A := roA 4 tv (g.turns.flatMap tC)) (by simp)).1.one, (hS.mem (A := roA 1 bv (u8s g.b)) (by simp)).1.one]
      rfl
    clear hS
    intro m hS
    refine RL.N1 ?_; (with_reducible repeat (first | refine QN.B1 ?_ | refine QN.N1 ?_ | refine WP.S1 ?_ | refine WP.B1 ?_ | refine WP.R1 ?_))
    refine WP.ret ?_; (with_reducible repeat (first | refine QN.tr ?_ | refine QN.br ?_))
    have hrd : rdAll (some (g, l, e)) = some g := by unfold rdAll; dsimp only; rw [if_pos ⟨he, hl0⟩]
    rw [hrd]
    refine QN.retC T_ok hS rfl rfl rfl (by repeat (first | exact zS .. | with_reducible apply zO)) ⟨_, ⟨vv, tv, bv, rfl, rfl⟩, hS.ros (L := mR g vv tv bv) (by unfold mR; exact (by repeat (first | exact AllIn.nil | refine AllIn.cons (by repeat (first | with_reducible exact zS .. | exact zS .. | with_reducible apply zO)) ?_))) rfl⟩
  generalize hK : ((k.toNat : Nat) : Int) = K at *
  by_cases k1 : K = 1
  · subst k1
    repeat (first | refine RL.autoP T_ok rfl rfl ?_ | refine RL.loadM T_ok hS rfl rfl rfl (by with_reducible repeat (first | exact zS .. | apply zO)) (by rfl) (by rfl) ?_ | refine RL.lsM T_ok hS rfl rfl rfl (by with_reducible repeat (first | exact zS .. | apply zO)) (by rfl) (by rfl) (by rfl) ?_ | (refine RL.N1 ?_; (with_reducible repeat (first | refine QN.B1 ?_ | refine QN.N1 ?_))) | with_reducible refine WP.S1 ?_ | with_reducible refine WP.B1 ?_ | with_reducible refine WP.R1 ?_ | (refine WP.skip ?_; (with_reducible repeat (first | refine QN.B1 ?_ | refine QN.N1 ?_))) | refine WP.condT rfl ?_ | refine WP.condF rfl ?_)
    refine RL.callM (fi := []) (ca := []) hS (ruint_s b l1 e1 9007199254740991) rfl rfl rfl rfl (by repeat (first | with_reducible exact Sels.nil | apply Sels.ro (by with_reducible repeat (first | exact zS .. | apply zO)) (by rfl) | apply Sels.own (by with_reducible repeat (first | exact Sel.head | apply Sel.tail)))) ?_
    (try clear hS); rintro _ m _ ⟨rfl, rfl⟩ hS; (try simp only [zC, zN] at hS); refine ⟨_, rfl, ?_⟩
    obtain ⟨q, h2⟩ : ∃ q, rdN 9007199254740991 (l1, e1) = q := ⟨_, rfl⟩
    rw [h2] at hS ⊢
    obtain ⟨cl, l2, e2⟩ := q
    dsimp only at hS ⊢
    have h2l := rdN_len 9007199254740991 (l1, e1)
    rw [h2] at h2l
    dsimp only at h2l
    repeat (first | refine RL.autoP T_ok rfl rfl ?_ | refine RL.loadM T_ok hS rfl rfl rfl (by with_reducible repeat (first | exact zS .. | apply zO)) (by rfl) (by rfl) ?_ | refine RL.lsM T_ok hS rfl rfl rfl (by with_reducible repeat (first | exact zS .. | apply zO)) (by rfl) (by rfl) (by rfl) ?_ | (refine RL.N1 ?_; (with_reducible repeat (first | refine QN.B1 ?_ | refine QN.N1 ?_))) | with_reducible refine WP.S1 ?_ | with_reducible refine WP.B1 ?_ | with_reducible refine WP.R1 ?_ | (refine WP.skip ?_; (with_reducible repeat (first | refine QN.B1 ?_ | refine QN.N1 ?_))) | refine WP.condT rfl ?_ | refine WP.condF rfl ?_)
    refine RL.storeM T_ok hS rfl rfl rfl rfl (by rfl) (by rfl) (by with_reducible repeat (first | exact Rep.head | apply Rep.tail)) (by rfl) ?_; (try clear hS); intro m hS
    repeat (first | refine RL.autoP T_ok rfl rfl ?_ | refine RL.loadM T_ok hS rfl rfl rfl (by with_reducible repeat (first | exact zS .. | apply zO)) (by rfl) (by rfl) ?_ | refine RL.lsM T_ok hS rfl rfl rfl (by with_reducible repeat (first | exact zS .. | apply zO)) (by rfl) (by rfl) (by rfl) ?_ | (refine RL.N1 ?_; (with_reducible repeat (first | refine QN.B1 ?_ | refine QN.N1 ?_))) | with_reducible refine WP.S1 ?_ | with_reducible refine WP.B1 ?_ | with_reducible refine WP.R1 ?_ | (refine WP.skip ?_; (with_reducible repeat (first | refine QN.B1 ?_ | refine QN.N1 ?_))) | refine WP.condT rfl ?_ | refine WP.condF rfl ?_)
    refine RL.callM (fi := []) (ca := []) hS (rtext_s b l2 e2 (by omega) 32 (by omega)) rfl rfl rfl rfl (by repeat (first | with_reducible exact Sels.nil | apply Sels.ro (by with_reducible repeat (first | exact zS .. | apply zO)) (by rfl) | apply Sels.own (by with_reducible repeat (first | exact Sel.head | apply Sel.tail)))) ?_
    (try clear hS); rintro _ m _ ⟨rfl, rfl⟩ hS; (try simp only [zC, zN] at hS); refine ⟨_, rfl, ?_⟩
    obtain ⟨q, h3⟩ : ∃ q, rdT 32 (l2, e2) = q := ⟨_, rfl⟩
    have h3l := rdT_len 32 (l2, e2)
    rw [h3] at hS h3l ⊢
    obtain ⟨rm, l3, e3⟩ := q
    dsimp only at hS h3l ⊢
    repeat (first | refine RL.autoP T_ok rfl rfl ?_ | refine RL.loadM T_ok hS rfl rfl rfl (by with_reducible repeat (first | exact zS .. | apply zO)) (by rfl) (by rfl) ?_ | refine RL.lsM T_ok hS rfl rfl rfl (by with_reducible repeat (first | exact zS .. | apply zO)) (by rfl) (by rfl) (by rfl) ?_ | (refine RL.N1 ?_; (with_reducible repeat (first | refine QN.B1 ?_ | refine QN.N1 ?_))) | with_reducible refine WP.S1 ?_ | with_reducible refine WP.B1 ?_ | with_reducible refine WP.R1 ?_ | (refine WP.skip ?_; (with_reducible repeat (first | refine QN.B1 ?_ | refine QN.N1 ?_))) | refine WP.condT rfl ?_ | refine WP.condF rfl ?_)
    refine RL.storeM T_ok hS rfl rfl rfl rfl (by rfl) (by rfl) (by with_reducible repeat (first | exact Rep.head | apply Rep.tail)) (by rfl) ?_; (try clear hS); intro m hS
    rw [if_pos (by decide), if_pos rfl, if_pos rfl, h2] at hR
    dsimp only at hR
    rw [h3] at hR
    repeat (first | refine RL.autoP T_ok rfl rfl ?_ | refine RL.loadM T_ok hS rfl rfl rfl (by with_reducible repeat (first | exact zS .. | apply zO)) (by rfl) (by rfl) ?_ | refine RL.lsM T_ok hS rfl rfl rfl (by with_reducible repeat (first | exact zS .. | apply zO)) (by rfl) (by rfl) (by rfl) ?_ | (refine RL.N1 ?_; (with_reducible repeat (first | refine QN.B1 ?_ | refine QN.N1 ?_))) | with_reducible refine WP.S1 ?_ | with_reducible refine WP.B1 ?_ | with_reducible refine WP.R1 ?_ | (refine WP.skip ?_; (with_reducible repeat (first | refine QN.B1 ?_ | refine QN.N1 ?_))) | refine WP.condT rfl ?_ | refine WP.condF rfl ?_)
    refine RL.callM (fi := []) (ca := []) hS (vread_s b l3 e3) rfl rfl rfl rfl (by repeat (first | with_reducible exact Sels.nil | apply Sels.ro (by with_reducible repeat (first | exact zS .. | apply zO)) (by rfl) | apply Sels.own (by with_reducible repeat (first | exact Sel.head | apply Sel.tail)))) ?_
    rintro r m _ ⟨S1, rfl⟩ hS
    simp only [zC, zN] at hS
    obtain ⟨A1, c1, rfl, _⟩ := hS.shape
    have hS := hS.freeze (by omega)
    refine ⟨_, rfl, ?_⟩
    obtain ⟨q, h4⟩ : ∃ q, vrd (l3, e3) = q := ⟨_, rfl⟩
    rw [h4] at hS hR ⊢
    obtain ⟨V, l4, e4⟩ := q
    dsimp only at hS hR ⊢
    repeat (first | refine RL.autoP T_ok rfl rfl ?_ | refine RL.loadM T_ok hS rfl rfl rfl (by with_reducible repeat (first | exact zS .. | apply zO)) (by rfl) (by rfl) ?_ | refine RL.lsM T_ok hS rfl rfl rfl (by with_reducible repeat (first | exact zS .. | apply zO)) (by rfl) (by rfl) (by rfl) ?_ | (refine RL.N1 ?_; (with_reducible repeat (first | refine QN.B1 ?_ | refine QN.N1 ?_))) | with_reducible refine WP.S1 ?_ | with_reducible refine WP.B1 ?_ | with_reducible refine WP.R1 ?_ | (refine WP.skip ?_; (with_reducible repeat (first | refine QN.B1 ?_ | refine QN.N1 ?_))) | refine WP.condT rfl ?_ | refine WP.condF rfl ?_)
    refine RL.storeM T_ok hS rfl rfl rfl rfl (by rfl) (by rfl) (by with_reducible repeat (first | exact Rep.head | apply Rep.tail)) (by rfl) ?_; (try clear hS); intro m hS
    repeat (first | refine RL.autoP T_ok rfl rfl ?_ | refine RL.loadM T_ok hS rfl rfl rfl (by with_reducible repeat (first | exact zS .. | apply zO)) (by rfl) (by rfl) ?_ | refine RL.lsM T_ok hS rfl rfl rfl (by with_reducible repeat (first | exact zS .. | apply zO)) (by rfl) (by rfl) (by rfl) ?_ | (refine RL.N1 ?_; (with_reducible repeat (first | refine QN.B1 ?_ | refine QN.N1 ?_))) | with_reducible refine WP.S1 ?_ | with_reducible refine WP.B1 ?_ | with_reducible refine WP.R1 ?_ | (refine WP.skip ?_; (with_reducible repeat (first | refine QN.B1 ?_ | refine QN.N1 ?_))) | refine WP.condT rfl ?_ | refine WP.condF rfl ?_)
    refine RL.callM (fi := []) (ca := []) hS (ruint_s b l4 e4 16384) rfl rfl rfl rfl (by repeat (first | with_reducible exact Sels.nil | apply Sels.ro (by with_reducible repeat (first | exact zS .. | apply zO)) (by rfl) | apply Sels.own (by with_reducible repeat (first | exact Sel.head | apply Sel.tail)))) ?_
    (try clear hS); rintro _ m _ ⟨rfl, rfl⟩ hS; (try simp only [zC, zN] at hS); refine ⟨_, rfl, ?_⟩
    obtain ⟨q, h5⟩ : ∃ q, rdN 16384 (l4, e4) = q := ⟨_, rfl⟩
    have hn := rdN_le 16384 (l4, e4)
    rw [h5] at hS hR hn ⊢
    obtain ⟨n5, l5, e5⟩ := q
    dsimp only at hS hR hn ⊢
    repeat (first | refine RL.autoP T_ok rfl rfl ?_ | refine RL.loadM T_ok hS rfl rfl rfl (by with_reducible repeat (first | exact zS .. | apply zO)) (by rfl) (by rfl) ?_ | refine RL.lsM T_ok hS rfl rfl rfl (by with_reducible repeat (first | exact zS .. | apply zO)) (by rfl) (by rfl) (by rfl) ?_ | (refine RL.N1 ?_; (with_reducible repeat (first | refine QN.B1 ?_ | refine QN.N1 ?_))) | with_reducible refine WP.S1 ?_ | with_reducible refine WP.B1 ?_ | with_reducible refine WP.R1 ?_ | (refine WP.skip ?_; (with_reducible repeat (first | refine QN.B1 ?_ | refine QN.N1 ?_))) | refine WP.condT rfl ?_ | refine WP.condF rfl ?_)
    refine WP.loop (X := Nat × List Trn × List Nat × Value × List UInt8 × Int) (fun q => [(0, .pointer (some ⟨b, 0, none⟩)), (2, .pointer (some ⟨b2, 0, none⟩)), (3, .pointer (some ⟨b3, 0, none⟩)), (4, .int .u64 q.1)])
      (fun q m => trdP n5 [] (l5, e5) = trdP q.1 q.2.1 (q.2.2.2.2.1, q.2.2.2.2.2) ∧ q.2.1.length + q.1 ≤ 16384 ∧ Tr m0 PP X m [rdA b q.2.2.2.2.1 q.2.2.2.2.2, blkA b3 27 [.int .i64 1, .int .u64 cl, .int .u64 0, .string (str rm), .slice A1 V.length c1, q.2.2.2.1, .slice none 0 0], blkA b2 27 [.int .i64 0, .int .u64 0, .int .u64 0, .string (str []), .slice none 0 0, .slice none 0 0, .slice none 0 0], roA 2 (.slice A1 V.length c1) (V.flatMap cC), ownA q.2.2.1 57 4 q.2.2.2.1 q.2.1.length (q.2.1.flatMap tC)]) (fun q => q.1)
      (n5, [], [], .slice none 0 0, l5, e5) (Sub.C1 rfl (Sub.C1 rfl (Sub.C1 rfl (Sub.C1 rfl Sub.nil)))) ⟨rfl, by simpa using hn, ?_⟩ ?_
    · have hS := hS.empty 57 4 none
      exact Tr.drop (H := [_, _, _, _, _]) (hS.sels (by repeat (first | with_reducible exact Sels.nil | apply Sels.ro (by repeat (first | exact zS .. | with_reducible apply zO)) (by rfl) | apply Sels.own (by repeat (first | exact Sel.head | with_reducible apply Sel.tail)))))
    clear hS
    rintro ⟨n, out, S, tv, l, e⟩ m ⟨hst, hlen, hS⟩
    dsimp only at hst hlen hS ⊢
    repeat (first | refine RL.autoP T_ok rfl rfl ?_ | refine RL.loadM T_ok hS rfl rfl rfl (by with_reducible repeat (first | exact zS .. | apply zO)) (by rfl) (by rfl) ?_ | refine RL.lsM T_ok hS rfl rfl rfl (by with_reducible repeat (first | exact zS .. | apply zO)) (by rfl) (by rfl) (by rfl) ?_ | (refine RL.N1 ?_; (with_reducible repeat (first | refine QN.B1 ?_ | refine QN.N1 ?_))) | with_reducible refine WP.S1 ?_ | with_reducible refine WP.B1 ?_ | with_reducible refine WP.R1 ?_ | (refine WP.skip ?_; (with_reducible repeat (first | refine QN.B1 ?_ | refine QN.N1 ?_))) | refine WP.condT rfl ?_ | refine WP.condF rfl ?_)
    by_cases hn0 : n = 0
    · subst hn0
      refine WP.condF (congrArg (fun q => some (Value.bool q)) (dF (by omega))) ?_
      refine WP.exit ?_
      (with_reducible repeat (first | refine QN.tx ?_ | refine QN.bx ?_ | refine QN.B1 ?_))
      rw [hst] at hR
      simp only [trdP] at hR
      obtain ⟨tA, tc, rfl, _⟩ := Own.shape (hS.mem (A := ownA S 57 4 tv out.length (out.flatMap tC)) (by simp))
      have hS := (hS.sels (Pre := [ownA S 57 4 (.slice tA out.length tc) out.length (out.flatMap tC)]) (by repeat (first | with_reducible exact Sels.nil | apply Sels.ro (by repeat (first | exact zS .. | with_reducible apply zO)) (by rfl) | apply Sels.own (by repeat (first | exact Sel.head | with_reducible apply Sel.tail)))))
      have hS := (Tr.freeze hS (by omega)).nilRo 1 (by omega)
      refine QN.cutEnd (⟨1, cl, 0, rm, V, out, []⟩, l, e, .slice A1 V.length c1, .slice tA out.length tc, .slice none 0 0) (Sub.C1 rfl (Sub.C1 rfl (Sub.C1 rfl Sub.nil))) ⟨hR.symm, ?_⟩
      exact Tr.drop (H := [rdA b l e, blkA b3 27 (mC ⟨1, cl, 0, rm, V, out, []⟩ (.slice A1 V.length c1) (.slice tA out.length tc) (.slice none 0 0)), blkA b2 27 [.int .i64 0, .int .u64 0, .int .u64 0, .string (str []), .slice none 0 0, .slice none 0 0, .slice none 0 0], roA 2 (.slice A1 V.length c1) (V.flatMap cC), roA 4 (.slice tA out.length tc) (out.flatMap tC), roA 1 (.slice none 0 0) []]) (hS.sels (by repeat (first | with_reducible exact Sels.nil | apply Sels.ro (by repeat (first | exact zS .. | with_reducible apply zO)) (by rfl) | apply Sels.own (by repeat (first | exact Sel.head | with_reducible apply Sel.tail)))))
    obtain ⟨n', rfl⟩ : ∃ n', n = n' + 1 := ⟨n - 1, by omega⟩
    refine WP.condT (congrArg (fun q => some (Value.bool q)) (dT (by omega))) ?_
    repeat (first | refine RL.autoP T_ok rfl rfl ?_ | refine RL.loadM T_ok hS rfl rfl rfl (by with_reducible repeat (first | exact zS .. | apply zO)) (by rfl) (by rfl) ?_ | refine RL.lsM T_ok hS rfl rfl rfl (by with_reducible repeat (first | exact zS .. | apply zO)) (by rfl) (by rfl) (by rfl) ?_ | (refine RL.N1 ?_; (with_reducible repeat (first | refine QN.B1 ?_ | refine QN.N1 ?_))) | with_reducible refine WP.S1 ?_ | with_reducible refine WP.B1 ?_ | with_reducible refine WP.R1 ?_ | (refine WP.skip ?_; (with_reducible repeat (first | refine QN.B1 ?_ | refine QN.N1 ?_))) | refine WP.condT rfl ?_ | refine WP.condF rfl ?_)
    refine RL.callM (fi := []) (ca := []) hS (ruint_s b l e 9007199254740991) rfl rfl rfl rfl (by repeat (first | with_reducible exact Sels.nil | apply Sels.ro (by with_reducible repeat (first | exact zS .. | apply zO)) (by rfl) | apply Sels.own (by with_reducible repeat (first | exact Sel.head | apply Sel.tail)))) ?_
    (try clear hS); rintro _ m _ ⟨rfl, rfl⟩ hS; (try simp only [zC, zN] at hS); refine ⟨_, rfl, ?_⟩
    obtain ⟨q, g1⟩ : ∃ q, rdN 9007199254740991 (l, e) = q := ⟨_, rfl⟩
    rw [g1] at hS ⊢
    obtain ⟨x1, la, ea⟩ := q
    dsimp only at hS ⊢
    repeat (first | refine RL.autoP T_ok rfl rfl ?_ | refine RL.loadM T_ok hS rfl rfl rfl (by with_reducible repeat (first | exact zS .. | apply zO)) (by rfl) (by rfl) ?_ | refine RL.lsM T_ok hS rfl rfl rfl (by with_reducible repeat (first | exact zS .. | apply zO)) (by rfl) (by rfl) (by rfl) ?_ | (refine RL.N1 ?_; (with_reducible repeat (first | refine QN.B1 ?_ | refine QN.N1 ?_))) | with_reducible refine WP.S1 ?_ | with_reducible refine WP.B1 ?_ | with_reducible refine WP.R1 ?_ | (refine WP.skip ?_; (with_reducible repeat (first | refine QN.B1 ?_ | refine QN.N1 ?_))) | refine WP.condT rfl ?_ | refine WP.condF rfl ?_)
    refine RL.allocS T_ok rfl hS rfl rfl ?_; (try clear hS); intro b5 m hS; refine ⟨_, rfl, ?_⟩
    refine RL.ssM T_ok hS rfl rfl rfl rfl rfl (by rfl) (by rfl) (by with_reducible repeat (first | exact Rep.head | apply Rep.tail)) (by rfl) ?_; (try clear hS); intro m hS
    repeat (first | refine RL.autoP T_ok rfl rfl ?_ | refine RL.loadM T_ok hS rfl rfl rfl (by with_reducible repeat (first | exact zS .. | apply zO)) (by rfl) (by rfl) ?_ | refine RL.lsM T_ok hS rfl rfl rfl (by with_reducible repeat (first | exact zS .. | apply zO)) (by rfl) (by rfl) (by rfl) ?_ | (refine RL.N1 ?_; (with_reducible repeat (first | refine QN.B1 ?_ | refine QN.N1 ?_))) | with_reducible refine WP.S1 ?_ | with_reducible refine WP.B1 ?_ | with_reducible refine WP.R1 ?_ | (refine WP.skip ?_; (with_reducible repeat (first | refine QN.B1 ?_ | refine QN.N1 ?_))) | refine WP.condT rfl ?_ | refine WP.condF rfl ?_)
    refine RL.callM (fi := []) (ca := []) hS (ruint_s b la ea 9007199254740991) rfl rfl rfl rfl (by repeat (first | with_reducible exact Sels.nil | apply Sels.ro (by with_reducible repeat (first | exact zS .. | apply zO)) (by rfl) | apply Sels.own (by with_reducible repeat (first | exact Sel.head | apply Sel.tail)))) ?_
    (try clear hS); rintro _ m _ ⟨rfl, rfl⟩ hS; (try simp only [zC, zN] at hS); refine ⟨_, rfl, ?_⟩
    obtain ⟨q, g2⟩ : ∃ q, rdN 9007199254740991 (la, ea) = q := ⟨_, rfl⟩
    rw [g2] at hS ⊢
    obtain ⟨x2, lb, eb⟩ := q
    dsimp only at hS ⊢
    repeat (first | refine RL.autoP T_ok rfl rfl ?_ | refine RL.loadM T_ok hS rfl rfl rfl (by with_reducible repeat (first | exact zS .. | apply zO)) (by rfl) (by rfl) ?_ | refine RL.lsM T_ok hS rfl rfl rfl (by with_reducible repeat (first | exact zS .. | apply zO)) (by rfl) (by rfl) (by rfl) ?_ | (refine RL.N1 ?_; (with_reducible repeat (first | refine QN.B1 ?_ | refine QN.N1 ?_))) | with_reducible refine WP.S1 ?_ | with_reducible refine WP.B1 ?_ | with_reducible refine WP.R1 ?_ | (refine WP.skip ?_; (with_reducible repeat (first | refine QN.B1 ?_ | refine QN.N1 ?_))) | refine WP.condT rfl ?_ | refine WP.condF rfl ?_)
    refine RL.storeM T_ok hS rfl rfl rfl rfl (by rfl) (by rfl) (by with_reducible repeat (first | exact Rep.head | apply Rep.tail)) (by rfl) ?_; (try clear hS); intro m hS
    repeat (first | refine RL.autoP T_ok rfl rfl ?_ | refine RL.loadM T_ok hS rfl rfl rfl (by with_reducible repeat (first | exact zS .. | apply zO)) (by rfl) (by rfl) ?_ | refine RL.lsM T_ok hS rfl rfl rfl (by with_reducible repeat (first | exact zS .. | apply zO)) (by rfl) (by rfl) (by rfl) ?_ | (refine RL.N1 ?_; (with_reducible repeat (first | refine QN.B1 ?_ | refine QN.N1 ?_))) | with_reducible refine WP.S1 ?_ | with_reducible refine WP.B1 ?_ | with_reducible refine WP.R1 ?_ | (refine WP.skip ?_; (with_reducible repeat (first | refine QN.B1 ?_ | refine QN.N1 ?_))) | refine WP.condT rfl ?_ | refine WP.condF rfl ?_)
    refine RL.callM (fi := []) (ca := []) hS (ruint_s b lb eb 9007199254740992) rfl rfl rfl rfl (by repeat (first | with_reducible exact Sels.nil | apply Sels.ro (by with_reducible repeat (first | exact zS .. | apply zO)) (by rfl) | apply Sels.own (by with_reducible repeat (first | exact Sel.head | apply Sel.tail)))) ?_
    (try clear hS); rintro _ m _ ⟨rfl, rfl⟩ hS; (try simp only [zC, zN] at hS); refine ⟨_, rfl, ?_⟩
    obtain ⟨q, g3⟩ : ∃ q, rdN 9007199254740992 (lb, eb) = q := ⟨_, rfl⟩
    rw [g3] at hS ⊢
    obtain ⟨x3, lc, ec⟩ := q
    dsimp only at hS ⊢
    repeat (first | refine RL.autoP T_ok rfl rfl ?_ | refine RL.loadM T_ok hS rfl rfl rfl (by with_reducible repeat (first | exact zS .. | apply zO)) (by rfl) (by rfl) ?_ | refine RL.lsM T_ok hS rfl rfl rfl (by with_reducible repeat (first | exact zS .. | apply zO)) (by rfl) (by rfl) (by rfl) ?_ | (refine RL.N1 ?_; (with_reducible repeat (first | refine QN.B1 ?_ | refine QN.N1 ?_))) | with_reducible refine WP.S1 ?_ | with_reducible refine WP.B1 ?_ | with_reducible refine WP.R1 ?_ | (refine WP.skip ?_; (with_reducible repeat (first | refine QN.B1 ?_ | refine QN.N1 ?_))) | refine WP.condT rfl ?_ | refine WP.condF rfl ?_)
    refine RL.storeM T_ok hS rfl rfl rfl rfl (by rfl) (by rfl) (by with_reducible repeat (first | exact Rep.head | apply Rep.tail)) (by rfl) ?_; (try clear hS); intro m hS
    repeat (first | refine RL.autoP T_ok rfl rfl ?_ | refine RL.loadM T_ok hS rfl rfl rfl (by with_reducible repeat (first | exact zS .. | apply zO)) (by rfl) (by rfl) ?_ | refine RL.lsM T_ok hS rfl rfl rfl (by with_reducible repeat (first | exact zS .. | apply zO)) (by rfl) (by rfl) (by rfl) ?_ | (refine RL.N1 ?_; (with_reducible repeat (first | refine QN.B1 ?_ | refine QN.N1 ?_))) | with_reducible refine WP.S1 ?_ | with_reducible refine WP.B1 ?_ | with_reducible refine WP.R1 ?_ | (refine WP.skip ?_; (with_reducible repeat (first | refine QN.B1 ?_ | refine QN.N1 ?_))) | refine WP.condT rfl ?_ | refine WP.condF rfl ?_)
    refine RL.callM (fi := []) (ca := []) hS (ruint_s b lc ec 9007199254740991) rfl rfl rfl rfl (by repeat (first | with_reducible exact Sels.nil | apply Sels.ro (by with_reducible repeat (first | exact zS .. | apply zO)) (by rfl) | apply Sels.own (by with_reducible repeat (first | exact Sel.head | apply Sel.tail)))) ?_
    (try clear hS); rintro _ m _ ⟨rfl, rfl⟩ hS; (try simp only [zC, zN] at hS); refine ⟨_, rfl, ?_⟩
    obtain ⟨q, g4⟩ : ∃ q, rdN 9007199254740991 (lc, ec) = q := ⟨_, rfl⟩
    rw [g4] at hS ⊢
    obtain ⟨x4, ld, ed⟩ := q
    dsimp only at hS ⊢
    repeat (first | refine RL.autoP T_ok rfl rfl ?_ | refine RL.loadM T_ok hS rfl rfl rfl (by with_reducible repeat (first | exact zS .. | apply zO)) (by rfl) (by rfl) ?_ | refine RL.lsM T_ok hS rfl rfl rfl (by with_reducible repeat (first | exact zS .. | apply zO)) (by rfl) (by rfl) (by rfl) ?_ | (refine RL.N1 ?_; (with_reducible repeat (first | refine QN.B1 ?_ | refine QN.N1 ?_))) | with_reducible refine WP.S1 ?_ | with_reducible refine WP.B1 ?_ | with_reducible refine WP.R1 ?_ | (refine WP.skip ?_; (with_reducible repeat (first | refine QN.B1 ?_ | refine QN.N1 ?_))) | refine WP.condT rfl ?_ | refine WP.condF rfl ?_)
    refine RL.storeM T_ok hS rfl rfl rfl rfl (by rfl) (by rfl) (by with_reducible repeat (first | exact Rep.head | apply Rep.tail)) (by rfl) ?_; (try clear hS); intro m hS
    change Tr m0 PP X m (rdA b ld ed :: blkA b5 57 [.int .u64 x1, .int .u64 x2, .int .u64 x3, .int .u64 x4] :: _) at hS
    have hT : rdTrn 9007199254740991 9007199254740991 9007199254740992 9007199254740991 (l, e) = (⟨x1, x2, x3, x4⟩, ld, ed) := by
      unfold rdTrn
      rw [g1]
      dsimp only
      rw [g2]
      dsimp only
      rw [g3]
      dsimp only
      rw [g4]
    repeat (first | refine RL.autoP T_ok rfl rfl ?_ | refine RL.loadM T_ok hS rfl rfl rfl (by with_reducible repeat (first | exact zS .. | apply zO)) (by rfl) (by rfl) ?_ | refine RL.lsM T_ok hS rfl rfl rfl (by with_reducible repeat (first | exact zS .. | apply zO)) (by rfl) (by rfl) (by rfl) ?_ | (refine RL.N1 ?_; (with_reducible repeat (first | refine QN.B1 ?_ | refine QN.N1 ?_))) | with_reducible refine WP.S1 ?_ | with_reducible refine WP.B1 ?_ | with_reducible refine WP.R1 ?_ | (refine WP.skip ?_; (with_reducible repeat (first | refine QN.B1 ?_ | refine QN.N1 ?_))) | refine WP.condT rfl ?_ | refine WP.condF rfl ?_)
    refine RL.callM (fi := []) (ca := []) hS (rerr_s b ld ed) rfl rfl rfl rfl (by repeat (first | with_reducible exact Sels.nil | apply Sels.ro (by with_reducible repeat (first | exact zS .. | apply zO)) (by rfl) | apply Sels.own (by with_reducible repeat (first | exact Sel.head | apply Sel.tail)))) ?_
    (try clear hS); rintro _ m _ ⟨rfl, rfl⟩ hS; (try simp only [zC, zN] at hS); refine ⟨_, rfl, ?_⟩
    refine RL.pure T_ok 1 rfl ?_
    have hst2 := hst
    simp only [trdP, hT] at hst2
    by_cases he : ed = 0
    rotate_left
    · refine RL.eqv (v' := .bool false) (zV (bF he)) ?_
      refine RL.callPM (fi := []) (ca := []) hS mustF_s rfl rfl rfl rfl (by repeat (first | with_reducible exact Sels.nil | apply Sels.ro (by with_reducible repeat (first | exact zS .. | apply zO)) (by rfl) | apply Sels.own (by with_reducible repeat (first | exact Sel.head | apply Sel.tail)))) (fun m hS => ?_)
      (with_reducible repeat (first | refine QN.tp ?_ | refine QN.bp ?_))
      rw [if_neg he] at hst2
      rw [hst2] at hR
      exact QN.panic ⟨[], by rw [← hR]; exact ⟨rfl, rfl⟩, Tr.drop (H := []) hS⟩
    rw [if_pos he] at hst2
    refine RL.eqv (v' := .bool true) (zV (beq_iff_eq.2 he)) ?_
    refine RL.callM (fi := []) (ca := []) hS mustT_s rfl rfl rfl rfl (by repeat (first | with_reducible exact Sels.nil | apply Sels.ro (by with_reducible repeat (first | exact zS .. | apply zO)) (by rfl) | apply Sels.own (by with_reducible repeat (first | exact Sel.head | apply Sel.tail)))) ?_
    (try clear hS); rintro _ m _ ⟨rfl, rfl⟩ hS; (try simp only [zN] at hS); refine ⟨_, rfl, ?_⟩
    repeat (first | refine RL.autoP T_ok rfl rfl ?_ | refine RL.loadM T_ok hS rfl rfl rfl (by with_reducible repeat (first | exact zS .. | apply zO)) (by rfl) (by rfl) ?_ | refine RL.lsM T_ok hS rfl rfl rfl (by with_reducible repeat (first | exact zS .. | apply zO)) (by rfl) (by rfl) (by rfl) ?_ | (refine RL.N1 ?_; (with_reducible repeat (first | refine QN.B1 ?_ | refine QN.N1 ?_))) | with_reducible refine WP.S1 ?_ | with_reducible refine WP.B1 ?_ | with_reducible refine WP.R1 ?_ | (refine WP.skip ?_; (with_reducible repeat (first | refine QN.B1 ?_ | refine QN.N1 ?_))) | refine WP.condT rfl ?_ | refine WP.condF rfl ?_)
    refine RL.append1M T_ok hS [.tmp 51] (tC ⟨x1, x2, x3, x4⟩) rfl rfl rfl rfl rfl rfl rfl rfl rfl rfl (by repeat (first | exact Sel.head | apply Sel.tail)) (by simp [Value.cells]) (tC_one _) (by unfold maxLen; omega) (by show (_ + _) * 32 ≤ _; omega) ?_
    clear hS
    intro bb tv' m S' hS
    obtain ⟨tA, tc, rfl, _⟩ := hS.shape
    refine ⟨_, rfl, ?_⟩
    repeat (first | refine RL.autoP T_ok rfl rfl ?_ | refine RL.loadM T_ok hS rfl rfl rfl (by with_reducible repeat (first | exact zS .. | apply zO)) (by rfl) (by rfl) ?_ | refine RL.lsM T_ok hS rfl rfl rfl (by with_reducible repeat (first | exact zS .. | apply zO)) (by rfl) (by rfl) (by rfl) ?_ | (refine RL.N1 ?_; (with_reducible repeat (first | refine QN.B1 ?_ | refine QN.N1 ?_))) | with_reducible refine WP.S1 ?_ | with_reducible refine WP.B1 ?_ | with_reducible refine WP.R1 ?_ | (refine WP.skip ?_; (with_reducible repeat (first | refine QN.B1 ?_ | refine QN.N1 ?_))) | refine WP.condT rfl ?_ | refine WP.condF rfl ?_)
    refine RL.storeM T_ok hS rfl rfl rfl rfl (by rfl) (by rfl) (by with_reducible repeat (first | exact Rep.head | apply Rep.tail)) (by rfl) ?_; (try clear hS); intro m hS
    refine RL.N1 ?_; (with_reducible repeat (first | refine QN.B1 ?_ | refine QN.N1 ?_ | refine WP.S1 ?_ | refine WP.B1 ?_ | refine WP.R1 ?_))
    refine RL.pure T_ok 2 rfl ?_
    refine RL.eqv (v' := .int .u64 (n' : Nat)) (zV (by rw [wrap_u64_in _ (by omega) (by omega)]; omega)) ?_
    refine RL.A1 T_ok rfl ?_
    refine RL.N1 (QN.round (n', out ++ [⟨x1, x2, x3, x4⟩], S', .slice tA (out.length + 1) tc, ld, ed) (Sub.C1 rfl (Sub.C1 rfl (Sub.C1 rfl (Sub.C1 rfl Sub.nil)))) ⟨hst2, by simp only [zL, List.length_singleton]; omega, ?_⟩ (by dsimp only; omega))
    have e1 : (out ++ [(⟨x1, x2, x3, x4⟩ : Trn)]).flatMap tC = out.flatMap tC ++ tC ⟨x1, x2, x3, x4⟩ := by simp
    dsimp only
    rw [e1, zL, List.length_singleton]
    exact Tr.drop (H := [_, _, _, _, _]) (hS.sels (by repeat (first | with_reducible exact Sels.nil | apply Sels.ro (by repeat (first | exact zS .. | with_reducible apply zO)) (by rfl) | apply Sels.own (by repeat (first | exact Sel.head | with_reducible apply Sel.tail)))))
  by_cases k2 : K = 2
  · subst k2
    repeat (first | refine RL.autoP T_ok rfl rfl ?_ | refine RL.loadM T_ok hS rfl rfl rfl (by with_reducible repeat (first | exact zS .. | apply zO)) (by rfl) (by rfl) ?_ | refine RL.lsM T_ok hS rfl rfl rfl (by with_reducible repeat (first | exact zS .. | apply zO)) (by rfl) (by rfl) (by rfl) ?_ | (refine RL.N1 ?_; (with_reducible repeat (first | refine QN.B1 ?_ | refine QN.N1 ?_))) | with_reducible refine WP.S1 ?_ | with_reducible refine WP.B1 ?_ | with_reducible refine WP.R1 ?_ | (refine WP.skip ?_; (with_reducible repeat (first | refine QN.B1 ?_ | refine QN.N1 ?_))) | refine WP.condT rfl ?_ | refine WP.condF rfl ?_)
    rw [if_pos (by decide), if_neg (by decide), if_neg (by decide)] at hR
    repeat (first | refine RL.autoP T_ok rfl rfl ?_ | refine RL.loadM T_ok hS rfl rfl rfl (by with_reducible repeat (first | exact zS .. | apply zO)) (by rfl) (by rfl) ?_ | refine RL.lsM T_ok hS rfl rfl rfl (by with_reducible repeat (first | exact zS .. | apply zO)) (by rfl) (by rfl) (by rfl) ?_ | (refine RL.N1 ?_; (with_reducible repeat (first | refine QN.B1 ?_ | refine QN.N1 ?_))) | with_reducible refine WP.S1 ?_ | with_reducible refine WP.B1 ?_ | with_reducible refine WP.R1 ?_ | (refine WP.skip ?_; (with_reducible repeat (first | refine QN.B1 ?_ | refine QN.N1 ?_))) | refine WP.condT rfl ?_ | refine WP.condF rfl ?_)
    refine RL.callM (fi := []) (ca := []) hS (vread_s b l1 e1) rfl rfl rfl rfl (by repeat (first | with_reducible exact Sels.nil | apply Sels.ro (by with_reducible repeat (first | exact zS .. | apply zO)) (by rfl) | apply Sels.own (by with_reducible repeat (first | exact Sel.head | apply Sel.tail)))) ?_
    rintro r m _ ⟨S1, rfl⟩ hS
    simp only [zC, zN] at hS
    obtain ⟨A1, c1, rfl, _⟩ := hS.shape
    have hS := hS.freeze (by omega)
    refine ⟨_, rfl, ?_⟩
    obtain ⟨q, h4⟩ : ∃ q, vrd (l1, e1) = q := ⟨_, rfl⟩
    rw [h4] at hS hR ⊢
    obtain ⟨V, l4, e4⟩ := q
    dsimp only at hS hR ⊢
    repeat (first | refine RL.autoP T_ok rfl rfl ?_ | refine RL.loadM T_ok hS rfl rfl rfl (by with_reducible repeat (first | exact zS .. | apply zO)) (by rfl) (by rfl) ?_ | refine RL.lsM T_ok hS rfl rfl rfl (by with_reducible repeat (first | exact zS .. | apply zO)) (by rfl) (by rfl) (by rfl) ?_ | (refine RL.N1 ?_; (with_reducible repeat (first | refine QN.B1 ?_ | refine QN.N1 ?_))) | with_reducible refine WP.S1 ?_ | with_reducible refine WP.B1 ?_ | with_reducible refine WP.R1 ?_ | (refine WP.skip ?_; (with_reducible repeat (first | refine QN.B1 ?_ | refine QN.N1 ?_))) | refine WP.condT rfl ?_ | refine WP.condF rfl ?_)
    refine RL.storeM T_ok hS rfl rfl rfl rfl (by rfl) (by rfl) (by with_reducible repeat (first | exact Rep.head | apply Rep.tail)) (by rfl) ?_; (try clear hS); intro m hS
    repeat (first | refine RL.autoP T_ok rfl rfl ?_ | refine RL.loadM T_ok hS rfl rfl rfl (by with_reducible repeat (first | exact zS .. | apply zO)) (by rfl) (by rfl) ?_ | refine RL.lsM T_ok hS rfl rfl rfl (by with_reducible repeat (first | exact zS .. | apply zO)) (by rfl) (by rfl) (by rfl) ?_ | (refine RL.N1 ?_; (with_reducible repeat (first | refine QN.B1 ?_ | refine QN.N1 ?_))) | with_reducible refine WP.S1 ?_ | with_reducible refine WP.B1 ?_ | with_reducible refine WP.R1 ?_ | (refine WP.skip ?_; (with_reducible repeat (first | refine QN.B1 ?_ | refine QN.N1 ?_))) | refine WP.condT rfl ?_ | refine WP.condF rfl ?_)
    refine RL.callM (fi := []) (ca := []) hS (ruint_s b l4 e4 16384) rfl rfl rfl rfl (by repeat (first | with_reducible exact Sels.nil | apply Sels.ro (by with_reducible repeat (first | exact zS .. | apply zO)) (by rfl) | apply Sels.own (by with_reducible repeat (first | exact Sel.head | apply Sel.tail)))) ?_
    (try clear hS); rintro _ m _ ⟨rfl, rfl⟩ hS; (try simp only [zC, zN] at hS); refine ⟨_, rfl, ?_⟩
    obtain ⟨q, h5⟩ : ∃ q, rdN 16384 (l4, e4) = q := ⟨_, rfl⟩
    have hn := rdN_le 16384 (l4, e4)
    rw [h5] at hS hR hn ⊢
    obtain ⟨n5, l5, e5⟩ := q
    dsimp only at hS hR hn ⊢
    repeat (first | refine RL.autoP T_ok rfl rfl ?_ | refine RL.loadM T_ok hS rfl rfl rfl (by with_reducible repeat (first | exact zS .. | apply zO)) (by rfl) (by rfl) ?_ | refine RL.lsM T_ok hS rfl rfl rfl (by with_reducible repeat (first | exact zS .. | apply zO)) (by rfl) (by rfl) (by rfl) ?_ | (refine RL.N1 ?_; (with_reducible repeat (first | refine QN.B1 ?_ | refine QN.N1 ?_))) | with_reducible refine WP.S1 ?_ | with_reducible refine WP.B1 ?_ | with_reducible refine WP.R1 ?_ | (refine WP.skip ?_; (with_reducible repeat (first | refine QN.B1 ?_ | refine QN.N1 ?_))) | refine WP.condT rfl ?_ | refine WP.condF rfl ?_)
    refine WP.loop (X := Nat × List Trn × List Nat × Value × List UInt8 × Int) (fun q => [(0, .pointer (some ⟨b, 0, none⟩)), (2, .pointer (some ⟨b2, 0, none⟩)), (3, .pointer (some ⟨b3, 0, none⟩)), (4, .int .u64 q.1)])
      (fun q m => trdP n5 [] (l5, e5) = trdP q.1 q.2.1 (q.2.2.2.2.1, q.2.2.2.2.2) ∧ q.2.1.length + q.1 ≤ 16384 ∧ Tr m0 PP X m [rdA b q.2.2.2.2.1 q.2.2.2.2.2, blkA b3 27 [.int .i64 2, .int .u64 0, .int .u64 0, .string (str []), .slice A1 V.length c1, q.2.2.2.1, .slice none 0 0], blkA b2 27 [.int .i64 0, .int .u64 0, .int .u64 0, .string (str []), .slice none 0 0, .slice none 0 0, .slice none 0 0], roA 2 (.slice A1 V.length c1) (V.flatMap cC), ownA q.2.2.1 57 4 q.2.2.2.1 q.2.1.length (q.2.1.flatMap tC)]) (fun q => q.1)
      (n5, [], [], .slice none 0 0, l5, e5) (Sub.C1 rfl (Sub.C1 rfl (Sub.C1 rfl (Sub.C1 rfl Sub.nil)))) ⟨rfl, by simpa using hn, ?_⟩ ?_
    · have hS := hS.empty 57 4 none
      exact Tr.drop (H := [_, _, _, _, _]) (hS.sels (by repeat (first | with_reducible exact Sels.nil | apply Sels.ro (by repeat (first | exact zS .. | with_reducible apply zO)) (by rfl) | apply Sels.own (by repeat (first | exact Sel.head | with_reducible apply Sel.tail)))))
    clear hS
    rintro ⟨n, out, S, tv, l, e⟩ m ⟨hst, hlen, hS⟩
    dsimp only at hst hlen hS ⊢
    repeat (first | refine RL.autoP T_ok rfl rfl ?_ | refine RL.loadM T_ok hS rfl rfl rfl (by with_reducible repeat (first | exact zS .. | apply zO)) (by rfl) (by rfl) ?_ | refine RL.lsM T_ok hS rfl rfl rfl (by with_reducible repeat (first | exact zS .. | apply zO)) (by rfl) (by rfl) (by rfl) ?_ | (refine RL.N1 ?_; (with_reducible repeat (first | refine QN.B1 ?_ | refine QN.N1 ?_))) | with_reducible refine WP.S1 ?_ | with_reducible refine WP.B1 ?_ | with_reducible refine WP.R1 ?_ | (refine WP.skip ?_; (with_reducible repeat (first | refine QN.B1 ?_ | refine QN.N1 ?_))) | refine WP.condT rfl ?_ | refine WP.condF rfl ?_)
    by_cases hn0 : n = 0
    · subst hn0
      refine WP.condF (congrArg (fun q => some (Value.bool q)) (dF (by omega))) ?_
      refine WP.exit ?_
      (with_reducible repeat (first | refine QN.tx ?_ | refine QN.bx ?_ | refine QN.B1 ?_))
      rw [hst] at hR
      simp only [trdP] at hR
      obtain ⟨tA, tc, rfl, _⟩ := Own.shape (hS.mem (A := ownA S 57 4 tv out.length (out.flatMap tC)) (by simp))
      have hS := (hS.sels (Pre := [ownA S 57 4 (.slice tA out.length tc) out.length (out.flatMap tC)]) (by repeat (first | with_reducible exact Sels.nil | apply Sels.ro (by repeat (first | exact zS .. | with_reducible apply zO)) (by rfl) | apply Sels.own (by repeat (first | exact Sel.head | with_reducible apply Sel.tail)))))
      have hS := (Tr.freeze hS (by omega)).nilRo 1 (by omega)
      refine QN.cutEnd (⟨2, 0, 0, [], V, out, []⟩, l, e, .slice A1 V.length c1, .slice tA out.length tc, .slice none 0 0) (Sub.C1 rfl (Sub.C1 rfl (Sub.C1 rfl Sub.nil))) ⟨hR.symm, ?_⟩
      exact Tr.drop (H := [rdA b l e, blkA b3 27 (mC ⟨2, 0, 0, [], V, out, []⟩ (.slice A1 V.length c1) (.slice tA out.length tc) (.slice none 0 0)), blkA b2 27 [.int .i64 0, .int .u64 0, .int .u64 0, .string (str []), .slice none 0 0, .slice none 0 0, .slice none 0 0], roA 2 (.slice A1 V.length c1) (V.flatMap cC), roA 4 (.slice tA out.length tc) (out.flatMap tC), roA 1 (.slice none 0 0) []]) (hS.sels (by repeat (first | with_reducible exact Sels.nil | apply Sels.ro (by repeat (first | exact zS .. | with_reducible apply zO)) (by rfl) | apply Sels.own (by repeat (first | exact Sel.head | with_reducible apply Sel.tail)))))
    obtain ⟨n', rfl⟩ : ∃ n', n = n' + 1 := ⟨n - 1, by omega⟩
    refine WP.condT (congrArg (fun q => some (Value.bool q)) (dT (by omega))) ?_
    repeat (first | refine RL.autoP T_ok rfl rfl ?_ | refine RL.loadM T_ok hS rfl rfl rfl (by with_reducible repeat (first | exact zS .. | apply zO)) (by rfl) (by rfl) ?_ | refine RL.lsM T_ok hS rfl rfl rfl (by with_reducible repeat (first | exact zS .. | apply zO)) (by rfl) (by rfl) (by rfl) ?_ | (refine RL.N1 ?_; (with_reducible repeat (first | refine QN.B1 ?_ | refine QN.N1 ?_))) | with_reducible refine WP.S1 ?_ | with_reducible refine WP.B1 ?_ | with_reducible refine WP.R1 ?_ | (refine WP.skip ?_; (with_reducible repeat (first | refine QN.B1 ?_ | refine QN.N1 ?_))) | refine WP.condT rfl ?_ | refine WP.condF rfl ?_)
    refine RL.callM (fi := []) (ca := []) hS (ruint_s b l e 9007199254740991) rfl rfl rfl rfl (by repeat (first | with_reducible exact Sels.nil | apply Sels.ro (by with_reducible repeat (first | exact zS .. | apply zO)) (by rfl) | apply Sels.own (by with_reducible repeat (first | exact Sel.head | apply Sel.tail)))) ?_
    (try clear hS); rintro _ m _ ⟨rfl, rfl⟩ hS; (try simp only [zC, zN] at hS); refine ⟨_, rfl, ?_⟩
    obtain ⟨q, g1⟩ : ∃ q, rdN 9007199254740991 (l, e) = q := ⟨_, rfl⟩
    rw [g1] at hS ⊢
    obtain ⟨x1, la, ea⟩ := q
    dsimp only at hS ⊢
    repeat (first | refine RL.autoP T_ok rfl rfl ?_ | refine RL.loadM T_ok hS rfl rfl rfl (by with_reducible repeat (first | exact zS .. | apply zO)) (by rfl) (by rfl) ?_ | refine RL.lsM T_ok hS rfl rfl rfl (by with_reducible repeat (first | exact zS .. | apply zO)) (by rfl) (by rfl) (by rfl) ?_ | (refine RL.N1 ?_; (with_reducible repeat (first | refine QN.B1 ?_ | refine QN.N1 ?_))) | with_reducible refine WP.S1 ?_ | with_reducible refine WP.B1 ?_ | with_reducible refine WP.R1 ?_ | (refine WP.skip ?_; (with_reducible repeat (first | refine QN.B1 ?_ | refine QN.N1 ?_))) | refine WP.condT rfl ?_ | refine WP.condF rfl ?_)
    refine RL.allocS T_ok rfl hS rfl rfl ?_; (try clear hS); intro b5 m hS; refine ⟨_, rfl, ?_⟩
    refine RL.ssM T_ok hS rfl rfl rfl rfl rfl (by rfl) (by rfl) (by with_reducible repeat (first | exact Rep.head | apply Rep.tail)) (by rfl) ?_; (try clear hS); intro m hS
    repeat (first | refine RL.autoP T_ok rfl rfl ?_ | refine RL.loadM T_ok hS rfl rfl rfl (by with_reducible repeat (first | exact zS .. | apply zO)) (by rfl) (by rfl) ?_ | refine RL.lsM T_ok hS rfl rfl rfl (by with_reducible repeat (first | exact zS .. | apply zO)) (by rfl) (by rfl) (by rfl) ?_ | (refine RL.N1 ?_; (with_reducible repeat (first | refine QN.B1 ?_ | refine QN.N1 ?_))) | with_reducible refine WP.S1 ?_ | with_reducible refine WP.B1 ?_ | with_reducible refine WP.R1 ?_ | (refine WP.skip ?_; (with_reducible repeat (first | refine QN.B1 ?_ | refine QN.N1 ?_))) | refine WP.condT rfl ?_ | refine WP.condF rfl ?_)
    refine RL.callM (fi := []) (ca := []) hS (ruint_s b la ea 9007199254740991) rfl rfl rfl rfl (by repeat (first | with_reducible exact Sels.nil | apply Sels.ro (by with_reducible repeat (first | exact zS .. | apply zO)) (by rfl) | apply Sels.own (by with_reducible repeat (first | exact Sel.head | apply Sel.tail)))) ?_
    (try clear hS); rintro _ m _ ⟨rfl, rfl⟩ hS; (try simp only [zC, zN] at hS); refine ⟨_, rfl, ?_⟩
    obtain ⟨q, g2⟩ : ∃ q, rdN 9007199254740991 (la, ea) = q := ⟨_, rfl⟩
    rw [g2] at hS ⊢
    obtain ⟨x2, lb, eb⟩ := q
    dsimp only at hS ⊢
    repeat (first | refine RL.autoP T_ok rfl rfl ?_ | refine RL.loadM T_ok hS rfl rfl rfl (by with_reducible repeat (first | exact zS .. | apply zO)) (by rfl) (by rfl) ?_ | refine RL.lsM T_ok hS rfl rfl rfl (by with_reducible repeat (first | exact zS .. | apply zO)) (by rfl) (by rfl) (by rfl) ?_ | (refine RL.N1 ?_; (with_reducible repeat (first | refine QN.B1 ?_ | refine QN.N1 ?_))) | with_reducible refine WP.S1 ?_ | with_reducible refine WP.B1 ?_ | with_reducible refine WP.R1 ?_ | (refine WP.skip ?_; (with_reducible repeat (first | refine QN.B1 ?_ | refine QN.N1 ?_))) | refine WP.condT rfl ?_ | refine WP.condF rfl ?_)
    refine RL.storeM T_ok hS rfl rfl rfl rfl (by rfl) (by rfl) (by with_reducible repeat (first | exact Rep.head | apply Rep.tail)) (by rfl) ?_; (try clear hS); intro m hS
    repeat (first | refine RL.autoP T_ok rfl rfl ?_ | refine RL.loadM T_ok hS rfl rfl rfl (by with_reducible repeat (first | exact zS .. | apply zO)) (by rfl) (by rfl) ?_ | refine RL.lsM T_ok hS rfl rfl rfl (by with_reducible repeat (first | exact zS .. | apply zO)) (by rfl) (by rfl) (by rfl) ?_ | (refine RL.N1 ?_; (with_reducible repeat (first | refine QN.B1 ?_ | refine QN.N1 ?_))) | with_reducible refine WP.S1 ?_ | with_reducible refine WP.B1 ?_ | with_reducible refine WP.R1 ?_ | (refine WP.skip ?_; (with_reducible repeat (first | refine QN.B1 ?_ | refine QN.N1 ?_))) | refine WP.condT rfl ?_ | refine WP.condF rfl ?_)
    refine RL.callM (fi := []) (ca := []) hS (ruint_s b lb eb 9007199254740992) rfl rfl rfl rfl (by repeat (first | with_reducible exact Sels.nil | apply Sels.ro (by with_reducible repeat (first | exact zS .. | apply zO)) (by rfl) | apply Sels.own (by with_reducible repeat (first | exact Sel.head | apply Sel.tail)))) ?_
    (try clear hS); rintro _ m _ ⟨rfl, rfl⟩ hS; (try simp only [zC, zN] at hS); refine ⟨_, rfl, ?_⟩
    obtain ⟨q, g3⟩ : ∃ q, rdN 9007199254740992 (lb, eb) = q := ⟨_, rfl⟩
    rw [g3] at hS ⊢
    obtain ⟨x3, lc, ec⟩ := q
    dsimp only at hS ⊢
    repeat (first | refine RL.autoP T_ok rfl rfl ?_ | refine RL.loadM T_ok hS rfl rfl rfl (by with_reducible repeat (first | exact zS .. | apply zO)) (by rfl) (by rfl) ?_ | refine RL.lsM T_ok hS rfl rfl rfl (by with_reducible repeat (first | exact zS .. | apply zO)) (by rfl) (by rfl) (by rfl) ?_ | (refine RL.N1 ?_; (with_reducible repeat (first | refine QN.B1 ?_ | refine QN.N1 ?_))) | with_reducible refine WP.S1 ?_ | with_reducible refine WP.B1 ?_ | with_reducible refine WP.R1 ?_ | (refine WP.skip ?_; (with_reducible repeat (first | refine QN.B1 ?_ | refine QN.N1 ?_))) | refine WP.condT rfl ?_ | refine WP.condF rfl ?_)
    refine RL.storeM T_ok hS rfl rfl rfl rfl (by rfl) (by rfl) (by with_reducible repeat (first | exact Rep.head | apply Rep.tail)) (by rfl) ?_; (try clear hS); intro m hS
    repeat (first | refine RL.autoP T_ok rfl rfl ?_ | refine RL.loadM T_ok hS rfl rfl rfl (by with_reducible repeat (first | exact zS .. | apply zO)) (by rfl) (by rfl) ?_ | refine RL.lsM T_ok hS rfl rfl rfl (by with_reducible repeat (first | exact zS .. | apply zO)) (by rfl) (by rfl) (by rfl) ?_ | (refine RL.N1 ?_; (with_reducible repeat (first | refine QN.B1 ?_ | refine QN.N1 ?_))) | with_reducible refine WP.S1 ?_ | with_reducible refine WP.B1 ?_ | with_reducible refine WP.R1 ?_ | (refine WP.skip ?_; (with_reducible repeat (first | refine QN.B1 ?_ | refine QN.N1 ?_))) | refine WP.condT rfl ?_ | refine WP.condF rfl ?_)
    refine RL.callM (fi := []) (ca := []) hS (ruint_s b lc ec 9007199254740991) rfl rfl rfl rfl (by repeat (first | with_reducible exact Sels.nil | apply Sels.ro (by with_reducible repeat (first | exact zS .. | apply zO)) (by rfl) | apply Sels.own (by with_reducible repeat (first | exact Sel.head | apply Sel.tail)))) ?_
    (try clear hS); rintro _ m _ ⟨rfl, rfl⟩ hS; (try simp only [zC, zN] at hS); refine ⟨_, rfl, ?_⟩
    obtain ⟨q, g4⟩ : ∃ q, rdN 9007199254740991 (lc, ec) = q := ⟨_, rfl⟩
    rw [g4] at hS ⊢
    obtain ⟨x4, ld, ed⟩ := q
    dsimp only at hS ⊢
    repeat (first | refine RL.autoP T_ok rfl rfl ?_ | refine RL.loadM T_ok hS rfl rfl rfl (by with_reducible repeat (first | exact zS .. | apply zO)) (by rfl) (by rfl) ?_ | refine RL.lsM T_ok hS rfl rfl rfl (by with_reducible repeat (first | exact zS .. | apply zO)) (by rfl) (by rfl) (by rfl) ?_ | (refine RL.N1 ?_; (with_reducible repeat (first | refine QN.B1 ?_ | refine QN.N1 ?_))) | with_reducible refine WP.S1 ?_ | with_reducible refine WP.B1 ?_ | with_reducible refine WP.R1 ?_ | (refine WP.skip ?_; (with_reducible repeat (first | refine QN.B1 ?_ | refine QN.N1 ?_))) | refine WP.condT rfl ?_ | refine WP.condF rfl ?_)
    refine RL.storeM T_ok hS rfl rfl rfl rfl (by rfl) (by rfl) (by with_reducible repeat (first | exact Rep.head | apply Rep.tail)) (by rfl) ?_; (try clear hS); intro m hS
    change Tr m0 PP X m (rdA b ld ed :: blkA b5 57 [.int .u64 x1, .int .u64 x2, .int .u64 x3, .int .u64 x4] :: _) at hS
    have hT : rdTrn 9007199254740991 9007199254740991 9007199254740992 9007199254740991 (l, e) = (⟨x1, x2, x3, x4⟩, ld, ed) := by
      unfold rdTrn
      rw [g1]
      dsimp only
      rw [g2]
      dsimp only
      rw [g3]
      dsimp only
      rw [g4]
    repeat (first | refine RL.autoP T_ok rfl rfl ?_ | refine RL.loadM T_ok hS rfl rfl rfl (by with_reducible repeat (first | exact zS .. | apply zO)) (by rfl) (by rfl) ?_ | refine RL.lsM T_ok hS rfl rfl rfl (by with_reducible repeat (first | exact zS .. | apply zO)) (by rfl) (by rfl) (by rfl) ?_ | (refine RL.N1 ?_; (with_reducible repeat (first | refine QN.B1 ?_ | refine QN.N1 ?_))) | with_reducible refine WP.S1 ?_ | with_reducible refine WP.B1 ?_ | with_reducible refine WP.R1 ?_ | (refine WP.skip ?_; (with_reducible repeat (first | refine QN.B1 ?_ | refine QN.N1 ?_))) | refine WP.condT rfl ?_ | refine WP.condF rfl ?_)
    refine RL.callM (fi := []) (ca := []) hS (rerr_s b ld ed) rfl rfl rfl rfl (by repeat (first | with_reducible exact Sels.nil | apply Sels.ro (by with_reducible repeat (first | exact zS .. | apply zO)) (by rfl) | apply Sels.own (by with_reducible repeat (first | exact Sel.head | apply Sel.tail)))) ?_
    (try clear hS); rintro _ m _ ⟨rfl, rfl⟩ hS; (try simp only [zC, zN] at hS); refine ⟨_, rfl, ?_⟩
    refine RL.pure T_ok 1 rfl ?_
    have hst2 := hst
    simp only [trdP, hT] at hst2
    by_cases he : ed = 0
    rotate_left
    · refine RL.eqv (v' := .bool false) (zV (bF he)) ?_
      refine RL.callPM (fi := []) (ca := []) hS mustF_s rfl rfl rfl rfl (by repeat (first | with_reducible exact Sels.nil | apply Sels.ro (by with_reducible repeat (first | exact zS .. | apply zO)) (by rfl) | apply Sels.own (by with_reducible repeat (first | exact Sel.head | apply Sel.tail)))) (fun m hS => ?_)
      (with_reducible repeat (first | refine QN.tp ?_ | refine QN.bp ?_))
      rw [if_neg he] at hst2
      rw [hst2] at hR
      exact QN.panic ⟨[], by rw [← hR]; exact ⟨rfl, rfl⟩, Tr.drop (H := []) hS⟩
    rw [if_pos he] at hst2
    refine RL.eqv (v' := .bool true) (zV (beq_iff_eq.2 he)) ?_
    refine RL.callM (fi := []) (ca := []) hS mustT_s rfl rfl rfl rfl (by repeat (first | with_reducible exact Sels.nil | apply Sels.ro (by with_reducible repeat (first | exact zS .. | apply zO)) (by rfl) | apply Sels.own (by with_reducible repeat (first | exact Sel.head | apply Sel.tail)))) ?_
    (try clear hS); rintro _ m _ ⟨rfl, rfl⟩ hS; (try simp only [zN] at hS); refine ⟨_, rfl, ?_⟩
    repeat (first | refine RL.autoP T_ok rfl rfl ?_ | refine RL.loadM T_ok hS rfl rfl rfl (by with_reducible repeat (first | exact zS .. | apply zO)) (by rfl) (by rfl) ?_ | refine RL.lsM T_ok hS rfl rfl rfl (by with_reducible repeat (first | exact zS .. | apply zO)) (by rfl) (by rfl) (by rfl) ?_ | (refine RL.N1 ?_; (with_reducible repeat (first | refine QN.B1 ?_ | refine QN.N1 ?_))) | with_reducible refine WP.S1 ?_ | with_reducible refine WP.B1 ?_ | with_reducible refine WP.R1 ?_ | (refine WP.skip ?_; (with_reducible repeat (first | refine QN.B1 ?_ | refine QN.N1 ?_))) | refine WP.condT rfl ?_ | refine WP.condF rfl ?_)
    refine RL.append1M T_ok hS [.tmp 51] (tC ⟨x1, x2, x3, x4⟩) rfl rfl rfl rfl rfl rfl rfl rfl rfl rfl (by repeat (first | exact Sel.head | apply Sel.tail)) (by simp [Value.cells]) (tC_one _) (by unfold maxLen; omega) (by show (_ + _) * 32 ≤ _; omega) ?_
    clear hS
    intro bb tv' m S' hS
    obtain ⟨tA, tc, rfl, _⟩ := hS.shape
    refine ⟨_, rfl, ?_⟩
    repeat (first | refine RL.autoP T_ok rfl rfl ?_ | refine RL.loadM T_ok hS rfl rfl rfl (by with_reducible repeat (first | exact zS .. | apply zO)) (by rfl) (by rfl) ?_ | refine RL.lsM T_ok hS rfl rfl rfl (by with_reducible repeat (first | exact zS .. | apply zO)) (by rfl) (by rfl) (by rfl) ?_ | (refine RL.N1 ?_; (with_reducible repeat (first | refine QN.B1 ?_ | refine QN.N1 ?_))) | with_reducible refine WP.S1 ?_ | with_reducible refine WP.B1 ?_ | with_reducible refine WP.R1 ?_ | (refine WP.skip ?_; (with_reducible repeat (first | refine QN.B1 ?_ | refine QN.N1 ?_))) | refine WP.condT rfl ?_ | refine WP.condF rfl ?_)
    refine RL.storeM T_ok hS rfl rfl rfl rfl (by rfl) (by rfl) (by with_reducible repeat (first | exact Rep.head | apply Rep.tail)) (by rfl) ?_; (try clear hS); intro m hS
    refine RL.N1 ?_; (with_reducible repeat (first | refine QN.B1 ?_ | refine QN.N1 ?_ | refine WP.S1 ?_ | refine WP.B1 ?_ | refine WP.R1 ?_))
    refine RL.pure T_ok 2 rfl ?_
    refine RL.eqv (v' := .int .u64 (n' : Nat)) (zV (by rw [wrap_u64_in _ (by omega) (by omega)]; omega)) ?_
    refine RL.A1 T_ok rfl ?_
    refine RL.N1 (QN.round (n', out ++ [⟨x1, x2, x3, x4⟩], S', .slice tA (out.length + 1) tc, ld, ed) (Sub.C1 rfl (Sub.C1 rfl (Sub.C1 rfl (Sub.C1 rfl Sub.nil)))) ⟨hst2, by simp only [zL, List.length_singleton]; omega, ?_⟩ (by dsimp only; omega))
    have e1 : (out ++ [(⟨x1, x2, x3, x4⟩ : Trn)]).flatMap tC = out.flatMap tC ++ tC ⟨x1, x2, x3, x4⟩ := by simp
    dsimp only
    rw [e1, zL, List.length_singleton]
    exact Tr.drop (H := [_, _, _, _, _]) (hS.sels (by repeat (first | with_reducible exact Sels.nil | apply Sels.ro (by repeat (first | exact zS .. | with_reducible apply zO)) (by rfl) | apply Sels.own (by repeat (first | exact Sel.head | with_reducible apply Sel.tail)))))
  by_cases k3 : K = 3
  · subst k3
    repeat (first | refine RL.autoP T_ok rfl rfl ?_ | refine RL.loadM T_ok hS rfl rfl rfl (by with_reducible repeat (first | exact zS .. | apply zO)) (by rfl) (by rfl) ?_ | refine RL.lsM T_ok hS rfl rfl rfl (by with_reducible repeat (first | exact zS .. | apply zO)) (by rfl) (by rfl) (by rfl) ?_ | (refine RL.N1 ?_; (with_reducible repeat (first | refine QN.B1 ?_ | refine QN.N1 ?_))) | with_reducible refine WP.S1 ?_ | with_reducible refine WP.B1 ?_ | with_reducible refine WP.R1 ?_ | (refine WP.skip ?_; (with_reducible repeat (first | refine QN.B1 ?_ | refine QN.N1 ?_))) | refine WP.condT rfl ?_ | refine WP.condF rfl ?_)
    refine RL.callM (fi := []) (ca := []) hS (ruint_s b l1 e1 9007199254740991) rfl rfl rfl rfl (by repeat (first | with_reducible exact Sels.nil | apply Sels.ro (by with_reducible repeat (first | exact zS .. | apply zO)) (by rfl) | apply Sels.own (by with_reducible repeat (first | exact Sel.head | apply Sel.tail)))) ?_
    (try clear hS); rintro _ m _ ⟨rfl, rfl⟩ hS; (try simp only [zC, zN] at hS); refine ⟨_, rfl, ?_⟩
    obtain ⟨q, h2⟩ : ∃ q, rdN 9007199254740991 (l1, e1) = q := ⟨_, rfl⟩
    rw [h2] at hS ⊢
    obtain ⟨n, l2, e2⟩ := q
    dsimp only at hS ⊢
    have h2l := rdN_len 9007199254740991 (l1, e1)
    rw [h2] at h2l
    dsimp only at h2l
    repeat (first | refine RL.autoP T_ok rfl rfl ?_ | refine RL.loadM T_ok hS rfl rfl rfl (by with_reducible repeat (first | exact zS .. | apply zO)) (by rfl) (by rfl) ?_ | refine RL.lsM T_ok hS rfl rfl rfl (by with_reducible repeat (first | exact zS .. | apply zO)) (by rfl) (by rfl) (by rfl) ?_ | (refine RL.N1 ?_; (with_reducible repeat (first | refine QN.B1 ?_ | refine QN.N1 ?_))) | with_reducible refine WP.S1 ?_ | with_reducible refine WP.B1 ?_ | with_reducible refine WP.R1 ?_ | (refine WP.skip ?_; (with_reducible repeat (first | refine QN.B1 ?_ | refine QN.N1 ?_))) | refine WP.condT rfl ?_ | refine WP.condF rfl ?_)
    refine RL.storeM T_ok hS rfl rfl rfl rfl (by rfl) (by rfl) (by with_reducible repeat (first | exact Rep.head | apply Rep.tail)) (by rfl) ?_; (try clear hS); intro m hS
    repeat (first | refine RL.autoP T_ok rfl rfl ?_ | refine RL.loadM T_ok hS rfl rfl rfl (by with_reducible repeat (first | exact zS .. | apply zO)) (by rfl) (by rfl) ?_ | refine RL.lsM T_ok hS rfl rfl rfl (by with_reducible repeat (first | exact zS .. | apply zO)) (by rfl) (by rfl) (by rfl) ?_ | (refine RL.N1 ?_; (with_reducible repeat (first | refine QN.B1 ?_ | refine QN.N1 ?_))) | with_reducible refine WP.S1 ?_ | with_reducible refine WP.B1 ?_ | with_reducible refine WP.R1 ?_ | (refine WP.skip ?_; (with_reducible repeat (first | refine QN.B1 ?_ | refine QN.N1 ?_))) | refine WP.condT rfl ?_ | refine WP.condF rfl ?_)
    refine RL.callM (fi := []) (ca := []) hS (rtext_s b l2 e2 (by omega) 1048576 (by omega)) rfl rfl rfl rfl (by repeat (first | with_reducible exact Sels.nil | apply Sels.ro (by with_reducible repeat (first | exact zS .. | apply zO)) (by rfl) | apply Sels.own (by with_reducible repeat (first | exact Sel.head | apply Sel.tail)))) ?_
    (try clear hS); rintro _ m _ ⟨rfl, rfl⟩ hS; (try simp only [zC, zN] at hS); refine ⟨_, rfl, ?_⟩
    obtain ⟨q, h3⟩ : ∃ q, rdT 1048576 (l2, e2) = q := ⟨_, rfl⟩
    have h3l := rdT_len 1048576 (l2, e2)
    rw [h3] at hS h3l ⊢
    obtain ⟨tx, l3, e3⟩ := q
    dsimp only at hS h3l ⊢
    refine RL.toBytes (l := tx) T_ok hS rfl rfl rfl (by unfold maxLen; omega) rfl rfl ?_
    clear hS
    rintro bv m hS ⟨bA, bc, rfl⟩
    refine ⟨_, rfl, ?_⟩
    repeat (first | refine RL.autoP T_ok rfl rfl ?_ | refine RL.loadM T_ok hS rfl rfl rfl (by with_reducible repeat (first | exact zS .. | apply zO)) (by rfl) (by rfl) ?_ | refine RL.lsM T_ok hS rfl rfl rfl (by with_reducible repeat (first | exact zS .. | apply zO)) (by rfl) (by rfl) (by rfl) ?_ | (refine RL.N1 ?_; (with_reducible repeat (first | refine QN.B1 ?_ | refine QN.N1 ?_))) | with_reducible refine WP.S1 ?_ | with_reducible refine WP.B1 ?_ | with_reducible refine WP.R1 ?_ | (refine WP.skip ?_; (with_reducible repeat (first | refine QN.B1 ?_ | refine QN.N1 ?_))) | refine WP.condT rfl ?_ | refine WP.condF rfl ?_)
    refine RL.storeM T_ok hS rfl rfl rfl rfl (by rfl) (by rfl) (by with_reducible repeat (first | exact Rep.head | apply Rep.tail)) (by rfl) ?_; (try clear hS); intro m hS
    rw [if_neg (by decide), if_pos rfl, h2] at hR
    dsimp only at hR
    rw [h3] at hR
    refine RL.N1 ?_
    (with_reducible repeat (first | refine QN.B1 ?_))
    refine QN.cutEnd (⟨3, 0, n, [], [], [], tx⟩, l3, e3, .slice none 0 0, .slice none 0 0, (.slice bA tx.length bc)) (Sub.C1 rfl (Sub.C1 rfl (Sub.C1 rfl Sub.nil))) ⟨hR.symm, ?_⟩
    have hS := ((hS.nilRo 2 (by omega)).nilRo 4 (by omega)).nilRo 1 (by omega)
    exact Tr.drop (H := [rdA b l3 e3, blkA b3 27 (mC ⟨3, 0, n, [], [], [], tx⟩ (.slice none 0 0) (.slice none 0 0) (.slice bA tx.length bc)), blkA b2 27 [.int .i64 0, .int .u64 0, .int .u64 0, .string (str []), .slice none 0 0, .slice none 0 0, .slice none 0 0], roA 2 (.slice none 0 0) [], roA 4 (.slice none 0 0) [], roA 1 (.slice bA tx.length bc) (u8s tx)]) (hS.sels (by repeat (first | with_reducible exact Sels.nil | apply Sels.ro (by repeat (first | exact zS .. | with_reducible apply zO)) (by rfl) | apply Sels.own (by repeat (first | exact Sel.head | with_reducible apply Sel.tail)))))
  by_cases k4 : K = 4
  · subst k4
    repeat (first | refine RL.autoP T_ok rfl rfl ?_ | refine RL.loadM T_ok hS rfl rfl rfl (by with_reducible repeat (first | exact zS .. | apply zO)) (by rfl) (by rfl) ?_ | refine RL.lsM T_ok hS rfl rfl rfl (by with_reducible repeat (first | exact zS .. | apply zO)) (by rfl) (by rfl) (by rfl) ?_ | (refine RL.N1 ?_; (with_reducible repeat (first | refine QN.B1 ?_ | refine QN.N1 ?_))) | with_reducible refine WP.S1 ?_ | with_reducible refine WP.B1 ?_ | with_reducible refine WP.R1 ?_ | (refine WP.skip ?_; (with_reducible repeat (first | refine QN.B1 ?_ | refine QN.N1 ?_))) | refine WP.condT rfl ?_ | refine WP.condF rfl ?_)
    refine RL.callM (fi := []) (ca := []) hS (ruint_s b l1 e1 9007199254740991) rfl rfl rfl rfl (by repeat (first | with_reducible exact Sels.nil | apply Sels.ro (by with_reducible repeat (first | exact zS .. | apply zO)) (by rfl) | apply Sels.own (by with_reducible repeat (first | exact Sel.head | apply Sel.tail)))) ?_
    (try clear hS); rintro _ m _ ⟨rfl, rfl⟩ hS; (try simp only [zC, zN] at hS); refine ⟨_, rfl, ?_⟩
    obtain ⟨q, h2⟩ : ∃ q, rdN 9007199254740991 (l1, e1) = q := ⟨_, rfl⟩
    rw [h2] at hS ⊢
    obtain ⟨n, l2, e2⟩ := q
    dsimp only at hS ⊢
    repeat (first | refine RL.autoP T_ok rfl rfl ?_ | refine RL.loadM T_ok hS rfl rfl rfl (by with_reducible repeat (first | exact zS .. | apply zO)) (by rfl) (by rfl) ?_ | refine RL.lsM T_ok hS rfl rfl rfl (by with_reducible repeat (first | exact zS .. | apply zO)) (by rfl) (by rfl) (by rfl) ?_ | (refine RL.N1 ?_; (with_reducible repeat (first | refine QN.B1 ?_ | refine QN.N1 ?_))) | with_reducible refine WP.S1 ?_ | with_reducible refine WP.B1 ?_ | with_reducible refine WP.R1 ?_ | (refine WP.skip ?_; (with_reducible repeat (first | refine QN.B1 ?_ | refine QN.N1 ?_))) | refine WP.condT rfl ?_ | refine WP.condF rfl ?_)
    refine RL.storeM T_ok hS rfl rfl rfl rfl (by rfl) (by rfl) (by with_reducible repeat (first | exact Rep.head | apply Rep.tail)) (by rfl) ?_; (try clear hS); intro m hS
    rw [if_neg (by decide), if_neg (by decide), if_pos (by decide), h2] at hR
    refine RL.N1 ?_
    (with_reducible repeat (first | refine QN.B1 ?_))
    refine QN.cutEnd (⟨4, 0, n, [], [], [], []⟩, l2, e2, .slice none 0 0, .slice none 0 0, (.slice none 0 0)) (Sub.C1 rfl (Sub.C1 rfl (Sub.C1 rfl Sub.nil))) ⟨hR.symm, ?_⟩
    have hS := ((hS.nilRo 2 (by omega)).nilRo 4 (by omega)).nilRo 1 (by omega)
    exact Tr.drop (H := [rdA b l2 e2, blkA b3 27 (mC ⟨4, 0, n, [], [], [], []⟩ (.slice none 0 0) (.slice none 0 0) (.slice none 0 0)), blkA b2 27 [.int .i64 0, .int .u64 0, .int .u64 0, .string (str []), .slice none 0 0, .slice none 0 0, .slice none 0 0], roA 2 (.slice none 0 0) [], roA 4 (.slice none 0 0) [], roA 1 (.slice none 0 0) (u8s [])]) (hS.sels (by repeat (first | with_reducible exact Sels.nil | apply Sels.ro (by repeat (first | exact zS .. | with_reducible apply zO)) (by rfl) | apply Sels.own (by repeat (first | exact Sel.head | with_reducible apply Sel.tail)))))
  by_cases k6 : K = 6
  · subst k6
    repeat (first | refine RL.autoP T_ok rfl rfl ?_ | refine RL.loadM T_ok hS rfl rfl rfl (by with_reducible repeat (first | exact zS .. | apply zO)) (by rfl) (by rfl) ?_ | refine RL.lsM T_ok hS rfl rfl rfl (by with_reducible repeat (first | exact zS .. | apply zO)) (by rfl) (by rfl) (by rfl) ?_ | (refine RL.N1 ?_; (with_reducible repeat (first | refine QN.B1 ?_ | refine QN.N1 ?_))) | with_reducible refine WP.S1 ?_ | with_reducible refine WP.B1 ?_ | with_reducible refine WP.R1 ?_ | (refine WP.skip ?_; (with_reducible repeat (first | refine QN.B1 ?_ | refine QN.N1 ?_))) | refine WP.condT rfl ?_ | refine WP.condF rfl ?_)
    refine RL.callM (fi := []) (ca := []) hS (ruint_s b l1 e1 9007199254740991) rfl rfl rfl rfl (by repeat (first | with_reducible exact Sels.nil | apply Sels.ro (by with_reducible repeat (first | exact zS .. | apply zO)) (by rfl) | apply Sels.own (by with_reducible repeat (first | exact Sel.head | apply Sel.tail)))) ?_
    (try clear hS); rintro _ m _ ⟨rfl, rfl⟩ hS; (try simp only [zC, zN] at hS); refine ⟨_, rfl, ?_⟩
    obtain ⟨q, h2⟩ : ∃ q, rdN 9007199254740991 (l1, e1) = q := ⟨_, rfl⟩
    rw [h2] at hS ⊢
    obtain ⟨n, l2, e2⟩ := q
    dsimp only at hS ⊢
    repeat (first | refine RL.autoP T_ok rfl rfl ?_ | refine RL.loadM T_ok hS rfl rfl rfl (by with_reducible repeat (first | exact zS .. | apply zO)) (by rfl) (by rfl) ?_ | refine RL.lsM T_ok hS rfl rfl rfl (by with_reducible repeat (first | exact zS .. | apply zO)) (by rfl) (by rfl) (by rfl) ?_ | (refine RL.N1 ?_; (with_reducible repeat (first | refine QN.B1 ?_ | refine QN.N1 ?_))) | with_reducible refine WP.S1 ?_ | with_reducible refine WP.B1 ?_ | with_reducible refine WP.R1 ?_ | (refine WP.skip ?_; (with_reducible repeat (first | refine QN.B1 ?_ | refine QN.N1 ?_))) | refine WP.condT rfl ?_ | refine WP.condF rfl ?_)
    refine RL.storeM T_ok hS rfl rfl rfl rfl (by rfl) (by rfl) (by with_reducible repeat (first | exact Rep.head | apply Rep.tail)) (by rfl) ?_; (try clear hS); intro m hS
    rw [if_neg (by decide), if_neg (by decide), if_pos (by decide), h2] at hR
    refine RL.N1 ?_
    (with_reducible repeat (first | refine QN.B1 ?_))
    refine QN.cutEnd (⟨6, 0, n, [], [], [], []⟩, l2, e2, .slice none 0 0, .slice none 0 0, (.slice none 0 0)) (Sub.C1 rfl (Sub.C1 rfl (Sub.C1 rfl Sub.nil))) ⟨hR.symm, ?_⟩
    have hS := ((hS.nilRo 2 (by omega)).nilRo 4 (by omega)).nilRo 1 (by omega)
    exact Tr.drop (H := [rdA b l2 e2, blkA b3 27 (mC ⟨6, 0, n, [], [], [], []⟩ (.slice none 0 0) (.slice none 0 0) (.slice none 0 0)), blkA b2 27 [.int .i64 0, .int .u64 0, .int .u64 0, .string (str []), .slice none 0 0, .slice none 0 0, .slice none 0 0], roA 2 (.slice none 0 0) [], roA 4 (.slice none 0 0) [], roA 1 (.slice none 0 0) (u8s [])]) (hS.sels (by repeat (first | with_reducible exact Sels.nil | apply Sels.ro (by repeat (first | exact zS .. | with_reducible apply zO)) (by rfl) | apply Sels.own (by repeat (first | exact Sel.head | with_reducible apply Sel.tail)))))
  by_cases k5 : K = 5
  · subst k5
    repeat (first | refine RL.autoP T_ok rfl rfl ?_ | refine RL.loadM T_ok hS rfl rfl rfl (by with_reducible repeat (first | exact zS .. | apply zO)) (by rfl) (by rfl) ?_ | refine RL.lsM T_ok hS rfl rfl rfl (by with_reducible repeat (first | exact zS .. | apply zO)) (by rfl) (by rfl) (by rfl) ?_ | (refine RL.N1 ?_; (with_reducible repeat (first | refine QN.B1 ?_ | refine QN.N1 ?_))) | with_reducible refine WP.S1 ?_ | with_reducible refine WP.B1 ?_ | with_reducible refine WP.R1 ?_ | (refine WP.skip ?_; (with_reducible repeat (first | refine QN.B1 ?_ | refine QN.N1 ?_))) | refine WP.condT rfl ?_ | refine WP.condF rfl ?_)
    refine RL.callM (fi := []) (ca := []) hS (rtext_s b l1 e1 (by omega) 1048576 (by omega)) rfl rfl rfl rfl (by repeat (first | with_reducible exact Sels.nil | apply Sels.ro (by with_reducible repeat (first | exact zS .. | apply zO)) (by rfl) | apply Sels.own (by with_reducible repeat (first | exact Sel.head | apply Sel.tail)))) ?_
    (try clear hS); rintro _ m _ ⟨rfl, rfl⟩ hS; (try simp only [zC, zN] at hS); refine ⟨_, rfl, ?_⟩
    obtain ⟨q, h3⟩ : ∃ q, rdT 1048576 (l1, e1) = q := ⟨_, rfl⟩
    have h3l := rdT_len 1048576 (l1, e1)
    rw [h3] at hS h3l ⊢
    obtain ⟨tx, l3, e3⟩ := q
    dsimp only at hS h3l ⊢
    refine RL.toBytes (l := tx) T_ok hS rfl rfl rfl (by unfold maxLen; omega) rfl rfl ?_
    clear hS
    rintro bv m hS ⟨bA, bc, rfl⟩
    refine ⟨_, rfl, ?_⟩
    repeat (first | refine RL.autoP T_ok rfl rfl ?_ | refine RL.loadM T_ok hS rfl rfl rfl (by with_reducible repeat (first | exact zS .. | apply zO)) (by rfl) (by rfl) ?_ | refine RL.lsM T_ok hS rfl rfl rfl (by with_reducible repeat (first | exact zS .. | apply zO)) (by rfl) (by rfl) (by rfl) ?_ | (refine RL.N1 ?_; (with_reducible repeat (first | refine QN.B1 ?_ | refine QN.N1 ?_))) | with_reducible refine WP.S1 ?_ | with_reducible refine WP.B1 ?_ | with_reducible refine WP.R1 ?_ | (refine WP.skip ?_; (with_reducible repeat (first | refine QN.B1 ?_ | refine QN.N1 ?_))) | refine WP.condT rfl ?_ | refine WP.condF rfl ?_)
    refine RL.storeM T_ok hS rfl rfl rfl rfl (by rfl) (by rfl) (by with_reducible repeat (first | exact Rep.head | apply Rep.tail)) (by rfl) ?_; (try clear hS); intro m hS
    rw [if_neg (by decide), if_neg (by decide), if_neg (by decide), if_pos rfl, h3] at hR
    refine RL.N1 ?_
    (with_reducible repeat (first | refine QN.B1 ?_))
    refine QN.cutEnd (⟨5, 0, 0, [], [], [], tx⟩, l3, e3, .slice none 0 0, .slice none 0 0, (.slice bA tx.length bc)) (Sub.C1 rfl (Sub.C1 rfl (Sub.C1 rfl Sub.nil))) ⟨hR.symm, ?_⟩
    have hS := ((hS.nilRo 2 (by omega)).nilRo 4 (by omega)).nilRo 1 (by omega)
    exact Tr.drop (H := [rdA b l3 e3, blkA b3 27 (mC ⟨5, 0, 0, [], [], [], tx⟩ (.slice none 0 0) (.slice none 0 0) (.slice bA tx.length bc)), blkA b2 27 [.int .i64 0, .int .u64 0, .int .u64 0, .string (str []), .slice none 0 0, .slice none 0 0, .slice none 0 0], roA 2 (.slice none 0 0) [], roA 4 (.slice none 0 0) [], roA 1 (.slice bA tx.length bc) (u8s tx)]) (hS.sels (by repeat (first | with_reducible exact Sels.nil | apply Sels.ro (by repeat (first | exact zS .. | with_reducible apply zO)) (by rfl) | apply Sels.own (by repeat (first | exact Sel.head | with_reducible apply Sel.tail)))))
  repeat (first | refine RL.autoP T_ok rfl rfl ?_ | refine RL.loadM T_ok hS rfl rfl rfl (by with_reducible repeat (first | exact zS .. | apply zO)) (by rfl) (by rfl) ?_ | refine RL.lsM T_ok hS rfl rfl rfl (by with_reducible repeat (first | exact zS .. | apply zO)) (by rfl) (by rfl) (by rfl) ?_ | (refine RL.N1 ?_; (with_reducible repeat (first | refine QN.B1 ?_ | refine QN.N1 ?_))) | with_reducible refine WP.S1 ?_ | with_reducible refine WP.B1 ?_ | with_reducible refine WP.R1 ?_ | (refine WP.skip ?_; (with_reducible repeat (first | refine QN.B1 ?_ | refine QN.N1 ?_))) | refine WP.condT rfl ?_ | refine WP.condF rfl ?_)
  refine WP.condF (congrArg (fun q => some (Value.bool q)) (bF k1)) ?_
  repeat (first | refine RL.autoP T_ok rfl rfl ?_ | refine RL.loadM T_ok hS rfl rfl rfl (by with_reducible repeat (first | exact zS .. | apply zO)) (by rfl) (by rfl) ?_ | refine RL.lsM T_ok hS rfl rfl rfl (by with_reducible repeat (first | exact zS .. | apply zO)) (by rfl) (by rfl) (by rfl) ?_ | (refine RL.N1 ?_; (with_reducible repeat (first | refine QN.B1 ?_ | refine QN.N1 ?_))) | with_reducible refine WP.S1 ?_ | with_reducible refine WP.B1 ?_ | with_reducible refine WP.R1 ?_ | (refine WP.skip ?_; (with_reducible repeat (first | refine QN.B1 ?_ | refine QN.N1 ?_))) | refine WP.condT rfl ?_ | refine WP.condF rfl ?_)
  refine WP.condF (congrArg (fun q => some (Value.bool q)) (bF k2)) ?_
  repeat (first | refine RL.autoP T_ok rfl rfl ?_ | refine RL.loadM T_ok hS rfl rfl rfl (by with_reducible repeat (first | exact zS .. | apply zO)) (by rfl) (by rfl) ?_ | refine RL.lsM T_ok hS rfl rfl rfl (by with_reducible repeat (first | exact zS .. | apply zO)) (by rfl) (by rfl) (by rfl) ?_ | (refine RL.N1 ?_; (with_reducible repeat (first | refine QN.B1 ?_ | refine QN.N1 ?_))) | with_reducible refine WP.S1 ?_ | with_reducible refine WP.B1 ?_ | with_reducible refine WP.R1 ?_ | (refine WP.skip ?_; (with_reducible repeat (first | refine QN.B1 ?_ | refine QN.N1 ?_))) | refine WP.condT rfl ?_ | refine WP.condF rfl ?_)
  refine WP.condF (congrArg (fun q => some (Value.bool q)) (bF k3)) ?_
  repeat (first | refine RL.autoP T_ok rfl rfl ?_ | refine RL.loadM T_ok hS rfl rfl rfl (by with_reducible repeat (first | exact zS .. | apply zO)) (by rfl) (by rfl) ?_ | refine RL.lsM T_ok hS rfl rfl rfl (by with_reducible repeat (first | exact zS .. | apply zO)) (by rfl) (by rfl) (by rfl) ?_ | (refine RL.N1 ?_; (with_reducible repeat (first | refine QN.B1 ?_ | refine QN.N1 ?_))) | with_reducible refine WP.S1 ?_ | with_reducible refine WP.B1 ?_ | with_reducible refine WP.R1 ?_ | (refine WP.skip ?_; (with_reducible repeat (first | refine QN.B1 ?_ | refine QN.N1 ?_))) | refine WP.condT rfl ?_ | refine WP.condF rfl ?_)
  refine WP.condF (congrArg (fun q => some (Value.bool q)) (bF k4)) ?_
  repeat (first | refine RL.autoP T_ok rfl rfl ?_ | refine RL.loadM T_ok hS rfl rfl rfl (by with_reducible repeat (first | exact zS .. | apply zO)) (by rfl) (by rfl) ?_ | refine RL.lsM T_ok hS rfl rfl rfl (by with_reducible repeat (first | exact zS .. | apply zO)) (by rfl) (by rfl) (by rfl) ?_ | (refine RL.N1 ?_; (with_reducible repeat (first | refine QN.B1 ?_ | refine QN.N1 ?_))) | with_reducible refine WP.S1 ?_ | with_reducible refine WP.B1 ?_ | with_reducible refine WP.R1 ?_ | (refine WP.skip ?_; (with_reducible repeat (first | refine QN.B1 ?_ | refine QN.N1 ?_))) | refine WP.condT rfl ?_ | refine WP.condF rfl ?_)
  refine WP.condF (congrArg (fun q => some (Value.bool q)) (bF k6)) ?_
  repeat (first | refine RL.autoP T_ok rfl rfl ?_ | refine RL.loadM T_ok hS rfl rfl rfl (by with_reducible repeat (first | exact zS .. | apply zO)) (by rfl) (by rfl) ?_ | refine RL.lsM T_ok hS rfl rfl rfl (by with_reducible repeat (first | exact zS .. | apply zO)) (by rfl) (by rfl) (by rfl) ?_ | (refine RL.N1 ?_; (with_reducible repeat (first | refine QN.B1 ?_ | refine QN.N1 ?_))) | with_reducible refine WP.S1 ?_ | with_reducible refine WP.B1 ?_ | with_reducible refine WP.R1 ?_ | (refine WP.skip ?_; (with_reducible repeat (first | refine QN.B1 ?_ | refine QN.N1 ?_))) | refine WP.condT rfl ?_ | refine WP.condF rfl ?_)
  refine WP.condF (congrArg (fun q => some (Value.bool q)) (bF k5)) ?_
  refine WP.skip ?_
  (with_reducible repeat (first | refine QN.B1 ?_))
  rw [if_neg (by omega), if_neg k3, if_neg (by omega), if_neg k5] at hR
  refine QN.cutEnd (⟨K, 0, 0, [], [], [], []⟩, l1, e1, .slice none 0 0, .slice none 0 0, (.slice none 0 0)) (Sub.C1 rfl (Sub.C1 rfl (Sub.C1 rfl Sub.nil))) ⟨hR.symm, ?_⟩
  have hS := ((hS.nilRo 2 (by omega)).nilRo 4 (by omega)).nilRo 1 (by omega)
  exact Tr.drop (H := [rdA b l1 e1, blkA b3 27 (mC ⟨K, 0, 0, [], [], [], []⟩ (.slice none 0 0) (.slice none 0 0) (.slice none 0 0)), blkA b2 27 [.int .i64 0, .int .u64 0, .int .u64 0, .string (str []), .slice none 0 0, .slice none 0 0, .slice none 0 0], roA 2 (.slice none 0 0) [], roA 4 (.slice none 0 0) [], roA 1 (.slice none 0 0) (u8s [])]) (hS.sels (by repeat (first | with_reducible exact Sels.nil | apply Sels.ro (by repeat (first | exact zS .. | with_reducible apply zO)) (by rfl) | apply Sels.own (by repeat (first | exact Sel.head | with_reducible apply Sel.tail)))))
end Go.Proofs.YtmjpcaiehfimgaaGreatDoor
end
section
namespace Go.Proofs.YtmjpcaiehfimgaaGreatDoor
open Go.RowKit Go.Ev Go.Ids
abbrev zM : List Value := [.int .i64 0, .int .u64 0, .int .u64 0, .string (str []), .slice none 0 0, .slice none 0 0, .slice none 0 0]
theorem readD_ret (m : World) (b2 b3 : Nat) : DfE Tryz.prog 30 [.pointer (some ⟨b2, 0, none⟩), .pointer (some ⟨b3, 0, none⟩)] .returning m fun ed u' m' => ed = .returned (.tuple #[]) ∧ u' = .returning ∧ m' = m := by
  refine DfE.enter ⟨_, Tryz.func30, by kernel_rfl, by kernel_rfl⟩ Tryz.func30 rfl rfl rfl ?_
  (with_reducible repeat (first | refine WP.S1 ?_ | refine WP.B1 ?_ | refine WP.R1 ?_))
  refine RL.A1 T_ok rfl ?_
  refine RL.N1 ?_; (with_reducible repeat (first | refine QN.B1 ?_ | refine QN.N1 ?_))
  refine WP.condT rfl ?_
  (with_reducible repeat (first | refine WP.S1 ?_ | refine WP.B1 ?_ | refine WP.R1 ?_))
  refine RL.A1 T_ok rfl ?_
  refine RL.N1 (QN.B1 (QN.end0 rfl ⟨rfl, rfl, rfl⟩))
theorem readD_pan {m0 m : World} {PP X : List Nat} {F : List Asn} {b2 b3 : Nat} {c2 : List Value} {x : Int} (hc : c2.length = 7) (hS : Tr m0 PP X m (blkA b2 27 c2 :: blkA b3 30 [.int .i64 x] :: F)) :
    DfE Tryz.prog 30 [.pointer (some ⟨b2, 0, none⟩), .pointer (some ⟨b3, 0, none⟩)] (.panicking mbrk) m fun ed u' m' => ed = .returned (.tuple #[]) ∧ settle u' = .returning ∧ Tr m0 PP X m' (blkA b2 27 zM :: blkA b3 30 [.int .i64 230] :: F) := by
  refine DfE.enter ⟨_, Tryz.func30, by kernel_rfl, by kernel_rfl⟩ Tryz.func30 rfl rfl rfl ?_
  (with_reducible repeat (first | refine WP.S1 ?_ | refine WP.B1 ?_ | refine WP.R1 ?_))
  refine RL.A1 T_ok rfl ?_
  refine RL.N1 ?_; (with_reducible repeat (first | refine QN.B1 ?_ | refine QN.N1 ?_))
  refine WP.condF rfl ?_
  (with_reducible repeat (first | refine WP.S1 ?_ | refine WP.B1 ?_ | refine WP.R1 ?_))
  refine RL.A1 T_ok rfl ?_
  refine RL.N1 ?_; (with_reducible repeat (first | refine QN.B1 ?_ | refine QN.N1 ?_))
  refine WP.condT rfl ?_
  (with_reducible repeat (first | refine WP.S1 ?_ | refine WP.B1 ?_ | refine WP.R1 ?_))
  refine RL.allocS T_ok rfl hS rfl rfl ?_; (try clear hS); intro b4 m hS; refine ⟨_, rfl, ?_⟩
  refine RL.ssM T_ok hS (vs := []) rfl rfl rfl rfl rfl (by rfl) (by rfl) (by with_reducible repeat (first | exact Rep.head | apply Rep.tail)) (by rfl) ?_
  (try clear hS); intro m hS
  refine RL.N1 ?_; (with_reducible repeat (first | refine QN.B1 ?_ | refine QN.N1 ?_ | refine WP.S1 ?_ | refine WP.B1 ?_ | refine WP.R1 ?_))
  refine RL.A1 T_ok rfl ?_
  refine RL.ssM T_ok hS (vs := zM) rfl rfl rfl rfl rfl (by rfl) (by rfl) (by with_reducible repeat (first | exact Rep.head | apply Rep.tail)) (by rw [hc]; rfl) ?_
  (try clear hS); intro m hS
  refine RL.storeM T_ok hS rfl rfl rfl rfl (by rfl) (by rfl) (by with_reducible repeat (first | exact Rep.head | apply Rep.tail)) (by rfl) ?_; (try clear hS); intro m hS
  refine RL.N1 (QN.B1 (QN.end0 rfl ⟨rfl, rfl, ?_⟩))
  have e : List.take 0 c2 ++ zM ++ List.drop (0 + 7) c2 = zM := by
    rw [List.drop_eq_nil_of_le (by omega)]; rfl
  have hS := hS.tail
  rw [show (List.take 0 c2 ++ zM ++ List.drop (0 + Row.size _) c2) = zM from e] at hS
  exact hS
theorem Res.cell2A {P : Program} {fn : Func} {T : Ty} (hT : T.Ok P) {n : Nat} {e : Env} {D : Fr} {m0 m : World} {M0 X : List Nat} {H : List Asn} {t t' : Tmp} {ty ty' tb tb' : TypeId} {b b' : Nat} {cs cs' : List Value} {v : Value} (hS : Tr m0 M0 X m H) (hr : fn.results = #[.cell t ty, .cell t' ty']) (ht : e.get t = some (.pointer (some ⟨b, 0, none⟩))) (ht' : e.get t' = some (.pointer (some ⟨b', 0, none⟩)))
    (hty : T.aggN ty = some cs.length) (hty' : T.plain ty' = true) (hB : blkA b tb cs ∈ H) (hB' : blkA b' tb' cs' ∈ H) (hv : cs'[0]? = some v) : Res P fn n e D m (.tuple #[.agg cs.toArray, v]) := by
  intro a w hf hs
  obtain ⟨r, hr', ha, hsz⟩ := Ty.aggN_spec hty
  have h1 := (hT.row hr').run_isAgg (TyK.known_of_agg ha) w
  rw [ha] at h1
  have h2 := (hT.row hr').run_size w
  rw [hsz] at h2
  have h3 := run_loadCells_list (P := P) w ⟨b, 0, none⟩ cs (fun j x hx => (hs.cell _).trans (by rw [add_block, Nat.zero_add]; exact Blk.cell (hS.mem hB) j hx))
  obtain ⟨r', hr2, hk2, ha2, _⟩ := Ty.plain_spec hty'
  have h4 := (hT.row hr2).run_isAgg hk2 w
  rw [ha2] at h4
  have h5 := Blk.cell (hS.mem hB') 0 hv
  simp [results, hr, hf.get t _ ht, hf.get t' _ ht', asAddr, loadVar, h1, h2, h3, h4, hs.cell, h5]
theorem DoE.dos {P : Program} {f : FuncId} {args : List Value} {Pre : List Asn} {Post : Ending → List Asn → Prop} {Post' : Value → List Asn → Prop} (h : DoE P f args Pre Post) (hp : ∀ ed H, Post ed H → ∃ v, ed = .returned v ∧ Post' v H) : DoS P f args Pre Post' := fun m X hT =>
  (h m X hT).mono fun _ m' ⟨H', h1, h2⟩ => by
    obtain ⟨v, rfl, h3⟩ := hp _ _ h1
    exact ⟨v, rfl, H', h3, h2⟩
theorem DoE.mono {P : Program} {f : FuncId} {args : List Value} {Pre : List Asn} {Post Post' : Ending → List Asn → Prop} (h : DoE P f args Pre Post) (hp : ∀ ed H, Post ed H → Post' ed H) : DoE P f args Pre Post' := fun m X hT =>
  (h m X hT).mono fun _ _ ⟨H', h1, h2⟩ => ⟨H', hp _ _ h1, h2⟩
def ReadP (r : Option Msg) (v : Value) (H : List Asn) : Prop := match r with
  | none => v = .tuple #[.agg zM.toArray, .int .i64 230] ∧ H = []
  | some x => ∃ vv tv bv, v = .tuple #[.agg (mC x vv tv bv).toArray, .int .i64 0] ∧ H = mR x vv tv bv
theorem readP_rd (l : List UInt8) : readP txt l = match rdAll (rdP (l, 0)) with
    | none => none
    | some g => if g.ok txt = true ∧ g.enc = l then some g.clean else none := by
  unfold readP told rdAll
  rcases rdP (l, 0) with _ | ⟨g, l', e⟩
  · rfl
  · dsimp only
    by_cases h : e = 0 ∧ l' = []
    · rw [if_pos h]
      dsimp only
      by_cases h2 : g.ok txt = true ∧ g.enc = l
      · rw [if_pos h2, if_pos ⟨h.1, h.2, h2.1, h2.2⟩]; rfl
      · rw [if_neg h2, if_neg (fun hh => h2 ⟨hh.2.2.1, hh.2.2.2⟩)]; rfl
    · rw [if_neg h, if_neg (fun hh => h ⟨hh.1, hh.2.1⟩)]; rfl
theorem trdP_len : ∀ (n : Nat) (out : List Trn) (s : St) (r : List Trn × St), trdP n out s = some r → r.1.length = out.length + n
  | 0, out, s, r, h => by simp only [trdP, Option.some.injEq] at h; subst h; rfl
  | n + 1, out, s, r, h => by
    simp only [trdP] at h
    split at h
    · have := trdP_len n _ _ r h
      rw [this, zL, List.length_singleton]; omega
    · cases h
theorem rdT_fst (most : Nat) (s : St) : (rdT most s).1.length ≤ s.1.length := (rdT_len most s).2
theorem rdP_fit {l : List UInt8} {g : Msg} {s : St} (hl : l.length < 100000000) (h : rdP (l, 0) = some (g, s)) : g.Fit := by
  have h1 := rdB_len (l, 0)
  unfold rdP at h
  generalize rdB (l, 0) = k at h h1
  obtain ⟨k, l1, e1⟩ := k
  dsimp only at h h1
  have h2 := rdN_len 9007199254740991 (l1, e1)
  have h3 := rdT_fst 1048576 (l1, e1)
  generalize rdN 9007199254740991 (l1, e1) = n at h h2
  obtain ⟨n, l2, e2⟩ := n
  dsimp only at h h2 h3
  split at h
  · split at h
    · cases h
    · rename_i t ht
      have hv := vrd_len (if ((k.toNat : Nat) : Int) = 1 then rdT 32 (if ((k.toNat : Nat) : Int) = 1 then (n, l2, e2) else (0, l1, e1)).2 else ([], (if ((k.toNat : Nat) : Int) = 1 then (n, l2, e2) else (0, l1, e1)).2)).2
      have ht2 := trdP_len _ _ _ _ ht
      have hn := rdN_le 16384 (vrd (if ((k.toNat : Nat) : Int) = 1 then rdT 32 (if ((k.toNat : Nat) : Int) = 1 then (n, l2, e2) else (0, l1, e1)).2 else ([], (if ((k.toNat : Nat) : Int) = 1 then (n, l2, e2) else (0, l1, e1)).2)).2).2
      have hr : (if ((k.toNat : Nat) : Int) = 1 then rdT 32 (if ((k.toNat : Nat) : Int) = 1 then (n, l2, e2) else (0, l1, e1)).2 else ([], (if ((k.toNat : Nat) : Int) = 1 then (n, l2, e2) else (0, l1, e1)).2)).1.length < 100000000 := by
        split
        · have := rdT_fst 32 (l2, e2)
          dsimp only at this ⊢
          omega
        · simp
      simp only [Option.some.injEq, Prod.mk.injEq] at h
      obtain ⟨rfl, _⟩ := h
      exact ⟨hr, by dsimp only; omega, by dsimp only; rw [ht2]; simp only [List.length_nil]; omega, by simp⟩
  · have h4 := rdT_fst 1048576 (l2, e2)
    dsimp only at h4
    split at h
    · simp only [Option.some.injEq, Prod.mk.injEq] at h
      obtain ⟨rfl, _⟩ := h
      exact ⟨by simp, by simp, by simp, by dsimp only; omega⟩
    · split at h
      · simp only [Option.some.injEq, Prod.mk.injEq] at h
        obtain ⟨rfl, _⟩ := h
        exact ⟨by simp, by simp, by simp, by simp⟩
      · split at h
        · simp only [Option.some.injEq, Prod.mk.injEq] at h
          obtain ⟨rfl, _⟩ := h
          exact ⟨by simp, by simp, by simp, by dsimp only; omega⟩
        · simp only [Option.some.injEq, Prod.mk.injEq] at h
          obtain ⟨rfl, _⟩ := h
          exact ⟨by simp, by simp, by simp, by simp⟩
end Go.Proofs.YtmjpcaiehfimgaaGreatDoor
end
section
namespace Go.Proofs.YtmjpcaiehfimgaaGreatDoor
open Go.RowKit Go.Ev Go.Ids
set_option maxRecDepth 20000 in
theorem msgread_s (v : Value) (l : List UInt8) (hl : l.length < 100000000) : DoS Tryz.prog 11 [v] [tabA, roA 1 v (u8s l)] (ReadP (readP txt l)) := by
  intro m0 X hS
  obtain ⟨PP, hP⟩ : ∃ PP, ofps [tabA, roA 1 v (u8s l)] = PP := ⟨_, rfl⟩
  rw [hP] at hS ⊢
  clear hP
  rw [readP_rd]
  refine FnE.enterD ⟨_, Tryz.func11, by kernel_rfl, by kernel_rfl⟩ Tryz.func11 rfl rfl ?_
  (with_reducible repeat (first | refine WP.S1 ?_ | refine WP.B1 ?_ | refine WP.R1 ?_))
  refine RL.allocS T_ok rfl hS rfl rfl ?_; (try clear hS); intro b2 m hS; refine ⟨_, rfl, ?_⟩
  refine RL.allocS T_ok rfl hS rfl rfl ?_; (try clear hS); intro b3 m hS; refine ⟨_, rfl, ?_⟩
  refine RL.N1 ?_; (with_reducible repeat (first | refine QN.B1 ?_ | refine QN.N1 ?_ | refine WP.S1 ?_ | refine WP.B1 ?_ | refine WP.R1 ?_))
  refine RL.A1 T_ok rfl ?_
  refine RL.defer rfl rfl rfl ?_
  -- a panic within
  have pan : ∀ {n : Nat} {e : Env} {R : Option Msg} (m : World) (c2 : List Value) (x : Int) (F : List Asn), e.get 2 = some (.pointer (some ⟨b2, 0, none⟩)) → e.get 3 = some (.pointer (some ⟨b3, 0, none⟩)) → c2.length = 7 → Tr m0 PP X m (blkA b2 27 c2 :: blkA b3 30 [.int .i64 x] :: F) → R = none →
      QN (bodyQD Tryz.prog Tryz.f11 fun e m' => ∃ v, e = .returned v ∧ ∃ H', ReadP R v H' ∧ Tr m0 PP X m' H') (.panic mbrk) n e ⟨[{ target := .fn (.func 30) #[.pointer (some ⟨b2, 0, none⟩), .pointer (some ⟨b3, 0, none⟩)], args := #[] }], none⟩ m := by
    intro n e R m c2 x F h2 h3 hc hS hR
    subst hR
    refine QN.leave (fi := []) (ca := [.pointer (some ⟨b2, 0, none⟩), .pointer (some ⟨b3, 0, none⟩)]) (.inr (.inr ⟨_, rfl, rfl⟩)) rfl (readD_pan hc hS) ?_ ?_ ?_
    · rintro v u' m4 ⟨_, hu, hS⟩
      exact .inl ⟨hu, _, Res.cell2A (cs := zM) T_ok hS rfl h2 h3 rfl rfl (zS ..) (zO _ (zS ..)) rfl, _, rfl, [], ⟨rfl, rfl⟩, Tr.drop (H := []) hS⟩
    · rintro ch u' m4 ⟨h, _⟩; cases h
    · rintro u' m4 ⟨h, _⟩; cases h
  -- where the answer is told
  have ord : ∀ {m : World} {H : List Asn} {c2 : List Value} {x : Int}, Tr m0 PP X m H → Sels [blkA b2 27 c2, blkA b3 30 [.int .i64 x]] H (H.drop 2) → True := fun _ _ => trivial
  clear ord
  refine RL.N1 ?_; (with_reducible repeat (first | refine QN.B1 ?_ | refine QN.N1 ?_ | refine WP.S1 ?_ | refine WP.B1 ?_ | refine WP.R1 ?_))
  refine RL.A1 T_ok rfl ?_
  refine RL.callM (fi := []) (ca := []) hS (newReader_s v l (by omega)) rfl rfl rfl rfl (by repeat (first | with_reducible exact Sels.nil | apply Sels.ro (by with_reducible repeat (first | exact zS .. | apply zO)) (by rfl) | apply Sels.own (by with_reducible repeat (first | exact Sel.head | apply Sel.tail)))) ?_
  (try clear hS); rintro _ m _ ⟨b, rfl, rfl⟩ hS; (try simp only [zC, zN] at hS); refine ⟨_, rfl, ?_⟩
  have hfit := rdP_fit (l := l) (g := ((rdP (l, 0)).getD (Msg.zero, [], 0)).1) (s := ((rdP (l, 0)).getD (Msg.zero, [], 0)).2) hl
  have hrd := mread_s b l 0 hl
  cases hr : rdAll (rdP (l, 0)) with
  | none =>
    rw [hr] at hrd
    refine RL.callPM (fi := []) (ca := []) hS (DoE.mono hrd (fun _ _ h => h)) rfl rfl rfl rfl (by repeat (first | with_reducible exact Sels.nil | apply Sels.ro (by with_reducible repeat (first | exact zS .. | apply zO)) (by rfl) | apply Sels.own (by with_reducible repeat (first | exact Sel.head | apply Sel.tail)))) (fun m hS => ?_)
    (with_reducible repeat (first | refine QN.tp ?_ | refine QN.bp ?_))
    exact pan m _ 0 _ rfl rfl rfl (hS.sels (Pre := [blkA b2 27 zM, blkA b3 30 [.int .i64 0]]) (by repeat (first | with_reducible exact Sels.nil | apply Sels.ro (by repeat (first | exact zS .. | with_reducible apply zO)) (by rfl) | apply Sels.own (by repeat (first | exact Sel.head | with_reducible apply Sel.tail))))) rfl
  | some g =>
    have hg : g.Fit := by
      cases h : rdP (l, 0) with
      | none => rw [h] at hr; cases hr
      | some q =>
        obtain ⟨g', l', e'⟩ := q
        rw [h] at hr
        unfold rdAll at hr
        dsimp only at hr
        split at hr
        · simp only [Option.some.injEq] at hr
          subst hr
          exact rdP_fit hl h
        · cases hr
    clear hfit
    rw [hr] at hrd
    dsimp only
    refine RL.callM (fi := []) (ca := []) hS (DoE.dos hrd (Post' := fun v H => ∃ vv tv bv, v = .agg (mC g vv tv bv).toArray ∧ H = mR g vv tv bv) (fun ed H ⟨vv, tv, bv, h1, h2⟩ => ⟨_, h1, vv, tv, bv, rfl, h2⟩)) rfl rfl rfl rfl (by repeat (first | with_reducible exact Sels.nil | apply Sels.ro (by with_reducible repeat (first | exact zS .. | apply zO)) (by rfl) | apply Sels.own (by with_reducible repeat (first | exact Sel.head | apply Sel.tail)))) ?_
    (try clear hS)
    rintro _ m _ ⟨vv, tv, bv, rfl, rfl⟩ hS
    simp only [mR, zC, zN] at hS
    have ones : (mC g vv tv bv).all Value.oneCell' = true := by
      simp only [mC, List.all_cons, List.all_nil, (hS.mem (A := roA 2 vv (g.vec.flatMap cC)) (by simp)).1.one, (hS.mem (A := roA 4 tv (g.turns.flatMap tC)) (by simp)).1.one, (hS.mem (A := roA 1 bv (u8s g.b)) (by simp)).1.one]
      rfl
    refine ⟨_, rfl, ?_⟩
    refine RL.ssM T_ok hS (vs := mC g vv tv bv) rfl rfl rfl rfl rfl ones (by rfl) (by with_reducible repeat (first | exact Rep.head | apply Rep.tail)) (by rfl) ?_
    (try clear hS); intro m hS
    have hS := hS.sels (Pre := [blkA b2 27 (mC g vv tv bv), blkA b3 30 [.int .i64 0]]) (by repeat (first | with_reducible exact Sels.nil | apply Sels.ro (by repeat (first | exact zS .. | with_reducible apply zO)) (by rfl) | apply Sels.own (by repeat (first | exact Sel.head | with_reducible apply Sel.tail))))
    simp only [zC, zN] at hS
    refine RL.N1 ?_; (with_reducible repeat (first | refine QN.B1 ?_ | refine QN.N1 ?_ | refine WP.S1 ?_ | refine WP.B1 ?_ | refine WP.R1 ?_))
    refine RL.lsM T_ok hS (cs := mC g vv tv bv) (vs := mC g vv tv bv) rfl rfl rfl (by repeat (first | exact zS .. | with_reducible apply zO)) rfl rfl rfl ?_
    refine RL.callM (fi := []) (ca := []) hS (mwrite_s g vv tv bv hg) rfl rfl rfl rfl (by unfold mR; exact (by repeat (first | with_reducible exact Sels.nil | apply Sels.ro (by repeat (first | exact zS .. | with_reducible apply zO)) (by rfl) | apply Sels.own (by repeat (first | exact Sel.head | with_reducible apply Sel.tail))))) ?_
    (try clear hS)
    rintro r m H' hW hS
    cases hok : g.ok txt with
    | false =>
      rcases hW with ⟨h, _⟩ | ⟨_, rfl, rfl⟩
      · rw [hok] at h; cases h
      refine ⟨_, rfl, ?_⟩
      simp only [List.nil_append] at hS
      refine RL.A1 T_ok rfl ?_
      refine RL.storeM T_ok hS rfl rfl rfl rfl (by rfl) (by rfl) (by with_reducible repeat (first | exact Rep.head | apply Rep.tail)) (by rfl) ?_; (try clear hS); intro m hS
      repeat (first | refine RL.autoP T_ok rfl rfl ?_ | refine RL.loadM T_ok hS rfl rfl rfl (by with_reducible repeat (first | exact zS .. | apply zO)) (by rfl) (by rfl) ?_ | refine RL.lsM T_ok hS rfl rfl rfl (by with_reducible repeat (first | exact zS .. | apply zO)) (by rfl) (by rfl) (by rfl) ?_ | (refine RL.N1 ?_; (with_reducible repeat (first | refine QN.B1 ?_ | refine QN.N1 ?_))) | with_reducible refine WP.S1 ?_ | with_reducible refine WP.B1 ?_ | with_reducible refine WP.R1 ?_ | (refine WP.skip ?_; (with_reducible repeat (first | refine QN.B1 ?_ | refine QN.N1 ?_))) | refine WP.condT rfl ?_ | refine WP.condF rfl ?_)
      refine RL.callPM (fi := []) (ca := []) hS mustF_s rfl rfl rfl rfl (by repeat (first | with_reducible exact Sels.nil | apply Sels.ro (by with_reducible repeat (first | exact zS .. | apply zO)) (by rfl) | apply Sels.own (by with_reducible repeat (first | exact Sel.head | apply Sel.tail)))) (fun m hS => ?_)
      (with_reducible repeat (first | refine QN.tp ?_ | refine QN.bp ?_))
      exact pan m _ 230 _ rfl rfl rfl (hS.sels (Pre := [blkA b2 27 (mC g vv tv bv), blkA b3 30 [.int .i64 230]]) (by repeat (first | with_reducible exact Sels.nil | apply Sels.ro (by repeat (first | exact zS .. | with_reducible apply zO)) (by rfl) | apply Sels.own (by repeat (first | exact Sel.head | with_reducible apply Sel.tail))))) (if_neg (fun hh => by cases hh.1))
    | true =>
      rcases hW with ⟨_, w, S7, rfl, rfl⟩ | ⟨h, _⟩
      rotate_left
      · rw [hok] at h; cases h
      refine ⟨_, rfl, ?_⟩
      have hS := Tr.freeze hS (by omega)
      simp only [List.append_eq, List.nil_append] at hS
      have hel := enc_len (ok_iff.1 hok) hg
      refine RL.A1 T_ok rfl ?_
      refine RL.storeM T_ok hS rfl rfl rfl rfl (by rfl) (by rfl) (by with_reducible repeat (first | exact Rep.head | apply Rep.tail)) (by rfl) ?_; (try clear hS); intro m hS
      repeat (first | refine RL.autoP T_ok rfl rfl ?_ | refine RL.loadM T_ok hS rfl rfl rfl (by with_reducible repeat (first | exact zS .. | apply zO)) (by rfl) (by rfl) ?_ | refine RL.lsM T_ok hS rfl rfl rfl (by with_reducible repeat (first | exact zS .. | apply zO)) (by rfl) (by rfl) (by rfl) ?_ | (refine RL.N1 ?_; (with_reducible repeat (first | refine QN.B1 ?_ | refine QN.N1 ?_))) | with_reducible refine WP.S1 ?_ | with_reducible refine WP.B1 ?_ | with_reducible refine WP.R1 ?_ | (refine WP.skip ?_; (with_reducible repeat (first | refine QN.B1 ?_ | refine QN.N1 ?_))) | refine WP.condT rfl ?_ | refine WP.condF rfl ?_)
      refine RL.callM (fi := []) (ca := []) hS (equal_Byte_s w v g.enc l (by omega)) rfl rfl rfl rfl (by repeat (first | with_reducible exact Sels.nil | apply Sels.ro (by with_reducible repeat (first | exact zS .. | apply zO)) (by rfl) | apply Sels.own (by with_reducible repeat (first | exact Sel.head | apply Sel.tail)))) ?_
      (try clear hS); rintro _ m _ ⟨rfl, rfl⟩ hS; (try simp only [zN] at hS); refine ⟨_, rfl, ?_⟩
      by_cases henc : g.enc = l
      rotate_left
      · refine RL.eqv (v' := .bool false) (zV (dF henc)) ?_
        repeat (first | refine RL.autoP T_ok rfl rfl ?_ | refine RL.loadM T_ok hS rfl rfl rfl (by with_reducible repeat (first | exact zS .. | apply zO)) (by rfl) (by rfl) ?_ | refine RL.lsM T_ok hS rfl rfl rfl (by with_reducible repeat (first | exact zS .. | apply zO)) (by rfl) (by rfl) (by rfl) ?_ | (refine RL.N1 ?_; (with_reducible repeat (first | refine QN.B1 ?_ | refine QN.N1 ?_))) | with_reducible refine WP.S1 ?_ | with_reducible refine WP.B1 ?_ | with_reducible refine WP.R1 ?_ | (refine WP.skip ?_; (with_reducible repeat (first | refine QN.B1 ?_ | refine QN.N1 ?_))) | refine WP.condT rfl ?_ | refine WP.condF rfl ?_)
        refine RL.callPM (fi := []) (ca := []) hS mustF_s rfl rfl rfl rfl (by repeat (first | with_reducible exact Sels.nil | apply Sels.ro (by with_reducible repeat (first | exact zS .. | apply zO)) (by rfl) | apply Sels.own (by with_reducible repeat (first | exact Sel.head | apply Sel.tail)))) (fun m hS => ?_)
        (with_reducible repeat (first | refine QN.tp ?_ | refine QN.bp ?_))
        exact pan m _ 0 _ rfl rfl rfl (hS.sels (Pre := [blkA b2 27 (mC g vv tv bv), blkA b3 30 [.int .i64 0]]) (by repeat (first | with_reducible exact Sels.nil | apply Sels.ro (by repeat (first | exact zS .. | with_reducible apply zO)) (by rfl) | apply Sels.own (by repeat (first | exact Sel.head | with_reducible apply Sel.tail))))) (if_neg (fun hh => henc hh.2))
      refine RL.eqv (v' := .bool true) (zV (dT henc)) ?_
      repeat (first | refine RL.autoP T_ok rfl rfl ?_ | refine RL.loadM T_ok hS rfl rfl rfl (by with_reducible repeat (first | exact zS .. | apply zO)) (by rfl) (by rfl) ?_ | refine RL.lsM T_ok hS rfl rfl rfl (by with_reducible repeat (first | exact zS .. | apply zO)) (by rfl) (by rfl) (by rfl) ?_ | (refine RL.N1 ?_; (with_reducible repeat (first | refine QN.B1 ?_ | refine QN.N1 ?_))) | with_reducible refine WP.S1 ?_ | with_reducible refine WP.B1 ?_ | with_reducible refine WP.R1 ?_ | (refine WP.skip ?_; (with_reducible repeat (first | refine QN.B1 ?_ | refine QN.N1 ?_))) | refine WP.condT rfl ?_ | refine WP.condF rfl ?_)
      refine RL.callM (fi := []) (ca := []) hS mustT_s rfl rfl rfl rfl (by repeat (first | with_reducible exact Sels.nil | apply Sels.ro (by with_reducible repeat (first | exact zS .. | apply zO)) (by rfl) | apply Sels.own (by with_reducible repeat (first | exact Sel.head | apply Sel.tail)))) ?_
      (try clear hS); rintro _ m _ ⟨rfl, rfl⟩ hS; (try simp only [zN] at hS); refine ⟨_, rfl, ?_⟩
      refine RL.N1 ?_
      (with_reducible repeat (first | refine QN.B1 ?_ | refine QN.N1 ?_))
      rw [if_pos ⟨rfl, henc⟩]
      have hS := hS.sels (Pre := [blkA b2 27 (mC g vv tv bv), blkA b3 30 [.int .i64 0]]) (by repeat (first | with_reducible exact Sels.nil | apply Sels.ro (by repeat (first | exact zS .. | with_reducible apply zO)) (by rfl) | apply Sels.own (by repeat (first | exact Sel.head | with_reducible apply Sel.tail))))
      simp only [zC, zN] at hS
      have hfv := hg.vec
      have hft := hg.turns
      refine WP.S1 ?_
      refine WP.calm ?_
      refine WP.drawS [blkA b2 27 (mC g vv tv bv)] [7, 8, 9] hS (by repeat (first | exact AllIn.nil | refine AllIn.cons (by repeat (first | with_reducible exact zS .. | exact zS .. | with_reducible apply zO)) ?_)) (by kernel_rfl) PanicOk.calm (fun hQ => ?_)
      refine RH.pure T_ok hQ [0] (by kernel_rfl) rfl ?_
      refine RH.loadM T_ok hQ 1 rfl (by kernel_rfl) rfl rfl rfl (by repeat (first | exact zS .. | with_reducible apply zO)) (by rfl) (by rfl) ?_
      refine RH.pure T_ok hQ [3] (by kernel_rfl) rfl ?_
      refine RH.loadM T_ok hQ 4 rfl (by kernel_rfl) rfl rfl rfl (by repeat (first | exact zS .. | with_reducible apply zO)) (by rfl) (by rfl) ?_
      refine RH.only 2 rfl (by kernel_rfl) (fun _ => ?_)
      refine RL.callM (fi := []) (ca := []) hS (vclean_s vv g.vec (by omega)) rfl rfl rfl rfl (by repeat (first | with_reducible exact Sels.nil | apply Sels.ro (by with_reducible repeat (first | exact zS .. | apply zO)) (by rfl) | apply Sels.own (by with_reducible repeat (first | exact Sel.head | apply Sel.tail)))) ?_
      rintro r1 m _ ⟨S1, rfl⟩ hS
      simp only [zC, zN] at hS
      obtain ⟨A1, c1, rfl, _⟩ := hS.shape
      have hS := Tr.freeze hS (by omega)
      refine ⟨_, rfl, ?_⟩
      refine RL.N1 (RH.contM hS (by repeat (first | exact AllIn.nil | refine AllIn.cons (by repeat (first | with_reducible exact zS .. | exact zS .. | with_reducible apply zO)) ?_)) ?_)
      refine RH.pure T_ok hQ [6] (by kernel_rfl) rfl ?_
      refine RH.only 5 rfl (by kernel_rfl) (fun _ => ?_)
      refine RL.callM (fi := []) (ca := []) hS (turnsF_s tv g.turns (by omega)) rfl rfl rfl rfl (by repeat (first | with_reducible exact Sels.nil | apply Sels.ro (by with_reducible repeat (first | exact zS .. | apply zO)) (by rfl) | apply Sels.own (by with_reducible repeat (first | exact Sel.head | apply Sel.tail)))) ?_
      rintro r2 m _ ⟨_, S2, rfl⟩ hS
      simp only [zC, zN] at hS
      obtain ⟨A2, c2, rfl, _⟩ := hS.shape
      have hS := Tr.freeze hS (by omega)
      refine ⟨_, rfl, ?_⟩
      refine RL.N1 (RH.contM hS (by repeat (first | exact AllIn.nil | refine AllIn.cons (by repeat (first | with_reducible exact zS .. | exact zS .. | with_reducible apply zO)) ?_)) ?_)
      refine RH.only 7 rfl (by kernel_rfl) (fun _ => ?_)
      refine RL.storeM T_ok hS rfl rfl rfl rfl (by rfl) (by rfl) (by with_reducible repeat (first | exact Rep.head | apply Rep.tail)) (by rfl) ?_; (try clear hS); intro m hS
      refine RL.N1 (RF.cont (by kernel_rfl) ?_)
      refine RF.only 8 rfl (by kernel_rfl) ?_
      refine RL.A1 T_ok rfl ?_
      refine RL.N1 (RF.cont (by kernel_rfl) ?_)
      refine RF.only 9 rfl (by kernel_rfl) ?_
      refine RL.storeM T_ok hS rfl rfl rfl rfl (by rfl) (by rfl) (by with_reducible repeat (first | exact Rep.head | apply Rep.tail)) (by rfl) ?_; (try clear hS); intro m hS
      refine RL.N1 (RF.last (by kernel_rfl) ?_)
      refine QN.calm ?_
      have hS := hS.sels (Pre := [blkA b2 27 (mC g.clean (.slice A1 (vclean g.vec).length c1) (.slice A2 (tnorm g.turns).length c2) bv), blkA b3 30 [.int .i64 0], roA 2 (.slice A1 (vclean g.vec).length c1) ((vclean g.vec).flatMap cC), roA 4 (.slice A2 (tnorm g.turns).length c2) ((tnorm g.turns).flatMap tC), roA 1 bv (u8s g.b)]) (by repeat (first | with_reducible exact Sels.nil | apply Sels.ro (by repeat (first | exact zS .. | with_reducible apply zO)) (by rfl) | apply Sels.own (by repeat (first | exact Sel.head | with_reducible apply Sel.tail))))
      simp only [zC, zN] at hS
      (with_reducible repeat (first | refine QN.B1 ?_ | refine QN.N1 ?_))
      (with_reducible repeat (first | refine WP.S1 ?_ | refine WP.B1 ?_ | refine WP.R1 ?_))
      have ones : (mC g.clean (.slice A1 (vclean g.vec).length c1) (.slice A2 (tnorm g.turns).length c2) bv).all Value.oneCell' = true := by
        simp only [mC, List.all_cons, List.all_nil, (hS.mem (A := roA 1 bv (u8s g.b)) (by simp)).1.one]
        rfl
      refine RL.lsM T_ok hS (cs := mC g.clean (.slice A1 (vclean g.vec).length c1) (.slice A2 (tnorm g.turns).length c2) bv) (vs := mC g.clean (.slice A1 (vclean g.vec).length c1) (.slice A2 (tnorm g.turns).length c2) bv) rfl rfl rfl (by repeat (first | exact zS .. | with_reducible apply zO)) rfl rfl rfl ?_
      refine RL.ssM T_ok hS (vs := mC g.clean (.slice A1 (vclean g.vec).length c1) (.slice A2 (tnorm g.turns).length c2) bv) rfl rfl rfl rfl rfl ones (by rfl) (by with_reducible repeat (first | exact Rep.head | apply Rep.tail)) (by rfl) ?_
      (try clear hS); intro m hS
      have hS := hS.sels (Pre := [blkA b2 27 (mC g.clean (.slice A1 (vclean g.vec).length c1) (.slice A2 (tnorm g.turns).length c2) bv), blkA b3 30 [.int .i64 0]]) (by repeat (first | with_reducible exact Sels.nil | apply Sels.ro (by repeat (first | exact zS .. | with_reducible apply zO)) (by rfl) | apply Sels.own (by repeat (first | exact Sel.head | with_reducible apply Sel.tail))))
      simp only [zC, zN] at hS
      refine RL.storeM T_ok hS rfl rfl rfl rfl (by rfl) (by rfl) (by with_reducible repeat (first | exact Rep.head | apply Rep.tail)) (by rfl) ?_; (try clear hS); intro m hS
      refine RL.N1 ?_
      (with_reducible repeat (first | refine QN.B1 ?_ | refine QN.N1 ?_))
      (try clear hfit hrd); clear pan
      refine WP.ret ?_; (with_reducible repeat (first | refine QN.tr ?_ | refine QN.br ?_))
      refine QN.leave (fi := []) (ca := [.pointer (some ⟨b2, 0, none⟩), .pointer (some ⟨b3, 0, none⟩)]) (.inl ⟨rfl, rfl⟩) rfl (readD_ret m b2 b3) ?_ ?_ ?_
      · rintro v' u' m4 ⟨_, rfl, rfl⟩
        refine .inl ⟨rfl, _, Res.cell2A (tb := 27) (tb' := 30) (cs := mC g.clean (.slice A1 (vclean g.vec).length c1) (.slice A2 (tnorm g.turns).length c2) bv) (cs' := [.int .i64 0]) T_ok hS rfl rfl rfl rfl rfl (by simp) (by simp) rfl, _, rfl, mR g.clean (.slice A1 (vclean g.vec).length c1) (.slice A2 (tnorm g.turns).length c2) bv, ⟨_, _, _, rfl, rfl⟩, ?_⟩
        exact Tr.drop (hS.sels (Pre := mR g.clean (.slice A1 (vclean g.vec).length c1) (.slice A2 (tnorm g.turns).length c2) bv) (by unfold mR; exact (by repeat (first | with_reducible exact Sels.nil | apply Sels.ro (by repeat (first | exact zS .. | with_reducible apply zO)) (by rfl) | apply Sels.own (by repeat (first | exact Sel.head | with_reducible apply Sel.tail))))))
      · rintro ch u' m4 ⟨h, _⟩; cases h
      · rintro u' m4 ⟨h, _⟩; cases h
end Go.Proofs.YtmjpcaiehfimgaaGreatDoor
end
section
namespace Go.Proofs.YtmjpcaiehfimgaaGreatDoor
open Go.RowKit Go.Ev Go.Ids
theorem refturnsW_s (S : List Nat) (u : Value) (bs : List UInt8) (v : Value) (l : List Trn) (hr : ∀ x ∈ l, x.right = true) (hl : l.length < 1000000) (hbs : bs.length < 100000000) : DoS Tryz.prog 28 [u, v] [ownA S 5 1 u bs.length (u8s bs), roA 4 v (l.flatMap tC)] (OP_ (bs ++ encTs l)) := by
  intro m0 X hS
  obtain ⟨PP, hP⟩ : ∃ PP, ofps [ownA S 5 1 u bs.length (u8s bs), roA 4 v (l.flatMap tC)] = PP := ⟨_, rfl⟩
  rw [hP] at hS ⊢
  clear hP
  obtain ⟨A, cc, rfl, _⟩ := Sl.shape (hS.mem (A := roA 4 v (l.flatMap tC)) (by simp)).1 (tsC_len l) (by omega)
  refine FnE.enter ⟨_, Tryz.func28, by kernel_rfl, by kernel_rfl⟩ Tryz.func28 rfl rfl ?_
  (with_reducible repeat (first | refine WP.S1 ?_ | refine WP.B1 ?_ | refine WP.R1 ?_))
  refine RL.A1 T_ok rfl ?_
  refine RL.N1 ?_; (with_reducible repeat (first | refine QN.B1 ?_ | refine QN.N1 ?_ | refine WP.S1 ?_ | refine WP.B1 ?_ | refine WP.R1 ?_))
  refine RL.pure T_ok 4 rfl ?_
  refine RL.eqv (v' := .int .u64 l.length) (zV (wr_u64 _ (by omega))) ?_
  refine RL.callM (fi := []) (ca := []) hS (refuint_s l.length (by omega) S u bs (by omega)) rfl rfl rfl rfl (by repeat (first | with_reducible exact Sels.nil | apply Sels.ro (by with_reducible repeat (first | exact zS .. | apply zO)) (by rfl) | apply Sels.own (by with_reducible repeat (first | exact Sel.head | apply Sel.tail)))) ?_
  (try clear hS); rintro u m _ ⟨S2, rfl⟩ hS; (try simp only [zC, zN] at hS); refine ⟨_, rfl, ?_⟩
  refine RL.A1 T_ok rfl ?_
  refine RL.N1 ?_; (with_reducible repeat (first | refine QN.B1 ?_ | refine QN.N1 ?_ | refine WP.S1 ?_ | refine WP.B1 ?_ | refine WP.R1 ?_))
  refine RL.A1 T_ok rfl ?_
  refine RL.N1 ?_; (with_reducible repeat (first | refine QN.B1 ?_ | refine QN.N1 ?_ | refine WP.S1 ?_ | refine WP.B1 ?_ | refine WP.R1 ?_))
  have h10 := encU_len10 (n := l.length) (by omega)
  refine WP.loop (X := Nat × List Nat × Value) (fun q => [(0, q.2.2), (1, .slice A l.length cc), (5, .int .i64 q.1)])
    (fun q m => q.1 ≤ l.length ∧ Tr m0 PP X m [ownA q.2.1 5 1 q.2.2 (bs ++ encU l.length ++ (l.take q.1).flatMap encT).length (u8s (bs ++ encU l.length ++ (l.take q.1).flatMap encT)), roA 4 (.slice A l.length cc) (l.flatMap tC)]) (fun q => l.length - q.1) (0, S2, u)
    (Sub.C1 rfl (Sub.C1 rfl (Sub.C1 rfl Sub.nil))) ⟨Nat.zero_le _, by simpa using hS⟩ ?_
  clear hS
  rintro ⟨i, S, u⟩ m ⟨hi, hS⟩
  dsimp only at hi hS ⊢
  have hli := encTs_len (l.take i) (fun x hx => hr x (List.mem_of_mem_take hx))
  have hlt : (l.take i).length ≤ 1000000 := by rw [List.length_take]; omega
  (with_reducible repeat (first | refine WP.S1 ?_ | refine WP.B1 ?_ | refine WP.R1 ?_))
  refine RL.A1 T_ok rfl ?_
  refine RL.N1 ?_; (with_reducible repeat (first | refine QN.B1 ?_ | refine QN.N1 ?_ | refine WP.S1 ?_ | refine WP.B1 ?_ | refine WP.R1 ?_))
  refine WP.cond rfl (fun hc => ?_) (fun hc => ?_)
  · have hc : i < l.length := by have := of_decide_eq_true hc; omega
    obtain ⟨w1, w2, w3, w4, w5, w6, w7⟩ := tright_iff.1 (hr l[i] (List.getElem_mem _))
    have l1 := encU_len10 (n := l[i].c) (by omega)
    have l2 := encU_len10 (n := l[i].f) (by omega)
    have l3 := encU_len10 (n := l[i].t) (by omega)
    refine WP.skip ?_; (with_reducible repeat (first | refine QN.B1 ?_ | refine QN.N1 ?_ | refine WP.S1 ?_ | refine WP.B1 ?_ | refine WP.R1 ?_))
    refine WP.drawS [roA 4 (.slice A l.length cc) (l.flatMap tC)] [] hS (by repeat (first | exact AllIn.nil | refine AllIn.cons (by repeat (first | with_reducible exact zS .. | exact zS .. | with_reducible apply zO)) ?_)) (by kernel_rfl) (by with_reducible repeat (first | exact PanicOk.body | refine PanicOk.then_ ?_ | refine PanicOk.block_ ?_)) (fun hQ => ?_)
    refine RH.pure T_ok hQ [0, 1, 2] (by kernel_rfl) rfl ?_
    obtain ⟨ad, rfl, _⟩ := Ts.cell (hS.mem (A := roA 4 (.slice A l.length cc) (l.flatMap tC)) (by simp)).1 i hc
    have hcell : ∀ (m' : World), JS m0 PP X [roA 4 (.slice (some ad) l.length cc) (l.flatMap tC)] m' → ∀ j u, (tC l[i])[j]? = some u → m'.cell? ((ad.add (i * 4)).add j) = some u := fun m' ⟨_, hS', hL⟩ => by
      obtain ⟨ad', h1, h2⟩ := Ts.cell (hS'.mem (hL.mem (zS ..))).1 i hc
      cases h1
      exact h2
    refine RH.indexAddr T_ok hQ 3 (k := i) rfl (by kernel_rfl) rfl rfl rfl rfl rfl rfl rfl hc rfl ?_
    refine RH.pure T_ok hQ [4] (by kernel_rfl) rfl ?_
    refine RH.load T_ok hQ 5 (fun m' hj => hcell m' hj 0 _ rfl) rfl (by kernel_rfl) rfl rfl rfl rfl ?_
    refine RH.pure T_ok hQ [7, 8] (by kernel_rfl) rfl ?_
    refine RH.indexAddr T_ok hQ 9 (k := i) rfl (by kernel_rfl) rfl rfl rfl rfl rfl rfl rfl hc rfl ?_
    refine RH.pure T_ok hQ [10] (by kernel_rfl) rfl ?_
    refine RH.load T_ok hQ 11 (fun m' hj => hcell m' hj 1 _ rfl) rfl (by kernel_rfl) rfl rfl rfl rfl ?_
    refine RH.only 6 rfl (by kernel_rfl) (fun _ => ?_)
    refine RL.callM (fi := []) (ca := []) hS (refuint_s l[i].c (by omega) S u (bs ++ encU l.length ++ (l.take i).flatMap encT) (by simp only [zL]; omega)) rfl rfl rfl rfl (by repeat (first | with_reducible exact Sels.nil | apply Sels.ro (by with_reducible repeat (first | exact zS .. | apply zO)) (by rfl) | apply Sels.own (by with_reducible repeat (first | exact Sel.head | apply Sel.tail)))) ?_
    (try clear hS); rintro w1 m _ ⟨T1, rfl⟩ hS; (try simp only [zC, zN] at hS); refine ⟨_, rfl, ?_⟩
    refine RL.N1 (RH.contM hS (by repeat (first | exact AllIn.nil | refine AllIn.cons (by repeat (first | with_reducible exact zS .. | exact zS .. | with_reducible apply zO)) ?_)) ?_)
    refine RH.only 12 rfl (by kernel_rfl) (fun _ => ?_)
    refine RL.callM (fi := []) (ca := []) hS (refuint_s l[i].f (by omega) T1 w1 (bs ++ encU l.length ++ (l.take i).flatMap encT ++ encU l[i].c) (by simp only [zL]; omega)) rfl rfl rfl rfl (by repeat (first | with_reducible exact Sels.nil | apply Sels.ro (by with_reducible repeat (first | exact zS .. | apply zO)) (by rfl) | apply Sels.own (by with_reducible repeat (first | exact Sel.head | apply Sel.tail)))) ?_
    (try clear hS); rintro w2 m _ ⟨T2, rfl⟩ hS; (try simp only [zC, zN] at hS); refine ⟨_, rfl, ?_⟩
    refine RL.N1 (RH.contM hS (by repeat (first | exact AllIn.nil | refine AllIn.cons (by repeat (first | with_reducible exact zS .. | exact zS .. | with_reducible apply zO)) ?_)) ?_)
    refine RH.pure T_ok hQ [13] (by kernel_rfl) rfl ?_
    refine RH.done (by kernel_rfl) (fun _ => ?_)
    (with_reducible repeat (first | refine QN.B1 ?_ | refine QN.N1 ?_))
    refine WP.drawS [roA 4 (.slice (some ad) l.length cc) (l.flatMap tC)] [] hS (by repeat (first | exact AllIn.nil | refine AllIn.cons (by repeat (first | with_reducible exact zS .. | exact zS .. | with_reducible apply zO)) ?_)) (by kernel_rfl) (by with_reducible repeat (first | exact PanicOk.body | refine PanicOk.then_ ?_ | refine PanicOk.block_ ?_)) (fun hQ => ?_)
    refine RH.pure T_ok hQ [0, 1, 2] (by kernel_rfl) rfl ?_
    have hcell : ∀ (m' : World), JS m0 PP X [roA 4 (.slice (some ad) l.length cc) (l.flatMap tC)] m' → ∀ j u, (tC l[i])[j]? = some u → m'.cell? ((ad.add (i * 4)).add j) = some u := fun m' ⟨_, hS', hL⟩ => by
      obtain ⟨ad', h1, h2⟩ := Ts.cell (hS'.mem (hL.mem (zS ..))).1 i hc
      cases h1
      exact h2
    refine RH.indexAddr T_ok hQ 3 (k := i) rfl (by kernel_rfl) rfl rfl rfl rfl rfl rfl rfl hc rfl ?_
    refine RH.pure T_ok hQ [4] (by kernel_rfl) rfl ?_
    refine RH.load T_ok hQ 5 (fun m' hj => hcell m' hj 2 _ rfl) rfl (by kernel_rfl) rfl rfl rfl rfl ?_
    refine RH.pure T_ok hQ [7, 8] (by kernel_rfl) rfl ?_
    refine RH.indexAddr T_ok hQ 9 (k := i) rfl (by kernel_rfl) rfl rfl rfl rfl rfl rfl rfl hc rfl ?_
    refine RH.pure T_ok hQ [10] (by kernel_rfl) rfl ?_
    refine RH.load T_ok hQ 11 (fun m' hj => hcell m' hj 3 _ rfl) rfl (by kernel_rfl) rfl rfl rfl rfl ?_
    refine RH.only 6 rfl (by kernel_rfl) (fun _ => ?_)
    refine RL.callM (fi := []) (ca := []) hS (refuint_s l[i].t (by omega) T2 w2 (bs ++ encU l.length ++ (l.take i).flatMap encT ++ encU l[i].c ++ encU l[i].f) (by simp only [zL]; omega)) rfl rfl rfl rfl (by repeat (first | with_reducible exact Sels.nil | apply Sels.ro (by with_reducible repeat (first | exact zS .. | apply zO)) (by rfl) | apply Sels.own (by with_reducible repeat (first | exact Sel.head | apply Sel.tail)))) ?_
    (try clear hS); rintro w3 m _ ⟨T3, rfl⟩ hS; (try simp only [zC, zN] at hS); refine ⟨_, rfl, ?_⟩
    refine RL.N1 (RH.contM hS (by repeat (first | exact AllIn.nil | refine AllIn.cons (by repeat (first | with_reducible exact zS .. | exact zS .. | with_reducible apply zO)) ?_)) ?_)
    refine RH.only 12 rfl (by kernel_rfl) (fun _ => ?_)
    refine RL.callM (fi := []) (ca := []) hS (refuint_s l[i].n (by omega) T3 w3 (bs ++ encU l.length ++ (l.take i).flatMap encT ++ encU l[i].c ++ encU l[i].f ++ encU l[i].t) (by simp only [zL]; omega)) rfl rfl rfl rfl (by repeat (first | with_reducible exact Sels.nil | apply Sels.ro (by with_reducible repeat (first | exact zS .. | apply zO)) (by rfl) | apply Sels.own (by with_reducible repeat (first | exact Sel.head | apply Sel.tail)))) ?_
    (try clear hS); rintro w4 m _ ⟨T4, rfl⟩ hS; (try simp only [zC, zN] at hS); refine ⟨_, rfl, ?_⟩
    refine RL.N1 (RH.contM hS (by repeat (first | exact AllIn.nil | refine AllIn.cons (by repeat (first | with_reducible exact zS .. | exact zS .. | with_reducible apply zO)) ?_)) ?_)
    refine RH.pure T_ok hQ [13] (by kernel_rfl) rfl ?_
    refine RH.done (by kernel_rfl) (fun _ => ?_)
    (with_reducible repeat (first | refine QN.B1 ?_ | refine QN.N1 ?_))
    (with_reducible repeat (first | refine WP.S1 ?_ | refine WP.B1 ?_ | refine WP.R1 ?_))
    refine RL.A1 T_ok rfl ?_
    refine RL.N1 (QN.round (i + 1, T4, w4) (Sub.C1 rfl (Sub.C1 rfl (Sub.C1 ?_ Sub.nil))) ⟨by dsimp only; omega, ?_⟩ (by dsimp only; omega))
    · show some (Value.int .i64 (IntKind.i64.wrap ((i : Int) + 1))) = some (Value.int .i64 ((i + 1 : Nat) : Int))
      rw [wrap_i64_in _ (by omega) (by omega)]; rfl
    · dsimp only
      rw [encTs_snoc l i hc]
      exact hS
  · have hc : i = l.length := by have := of_decide_eq_false hc; omega
    subst hc
    rw [List.take_length] at hS
    refine WP.exit ?_
    (with_reducible repeat (first | refine QN.tx ?_ | refine QN.bx ?_ | refine QN.B1 ?_ | refine QN.N1 ?_))
    (with_reducible repeat (first | refine WP.S1 ?_ | refine WP.B1 ?_ | refine WP.R1 ?_))
    refine RL.A1 T_ok rfl ?_
    refine RL.N1 ?_; (with_reducible repeat (first | refine QN.B1 ?_ | refine QN.N1 ?_ | refine WP.S1 ?_ | refine WP.B1 ?_ | refine WP.R1 ?_))
    refine WP.ret ?_; (with_reducible repeat (first | refine QN.tr ?_ | refine QN.br ?_))
    have e : bs ++ encU l.length ++ l.flatMap encT = bs ++ encTs l := by unfold encTs; rw [List.append_assoc]
    rw [e] at hS
    exact QN.ret1 rfl rfl ⟨_, rfl, [_], ⟨S, rfl⟩, Tr.drop (H := [_]) hS⟩
def RTP (b : Nat) (r : List Trn × St) (v : Value) (H : List Asn) : Prop := ∃ S, H = [ownA S 57 4 v r.1.length (r.1.flatMap tC), qdA b r.2.1 r.2.2]
set_option maxRecDepth 20000 in
theorem readTurns_s (b : Nat) (l0 : List UInt8) (e0 : Int) : DoS Tryz.prog 44 [.pointer (some ⟨b, 0, none⟩), .int .u64 16384] [qdA b l0 e0] (RTP b (trdQ (rdN 16384 (l0, e0)).1 [] (rdN 16384 (l0, e0)).2)) := by
  intro m0 X hS
  obtain ⟨PP, hP⟩ : ∃ PP, ofps [qdA b l0 e0] = PP := ⟨_, rfl⟩
  rw [hP] at hS ⊢
  clear hP
  refine FnE.enter ⟨_, Tryz.func44, by kernel_rfl, by kernel_rfl⟩ Tryz.func44 rfl rfl ?_
  repeat (first | refine RL.autoP T_ok rfl rfl ?_ | refine RL.loadM T_ok hS rfl rfl rfl (by with_reducible repeat (first | exact zS .. | apply zO)) (by rfl) (by rfl) ?_ | refine RL.lsM T_ok hS rfl rfl rfl (by with_reducible repeat (first | exact zS .. | apply zO)) (by rfl) (by rfl) (by rfl) ?_ | (refine RL.N1 ?_; (with_reducible repeat (first | refine QN.B1 ?_ | refine QN.N1 ?_))) | with_reducible refine WP.S1 ?_ | with_reducible refine WP.B1 ?_ | with_reducible refine WP.R1 ?_ | (refine WP.skip ?_; (with_reducible repeat (first | refine QN.B1 ?_ | refine QN.N1 ?_))) | refine WP.condT rfl ?_ | refine WP.condF rfl ?_)
  refine RL.callM (fi := []) (ca := []) hS (quint_s b l0 e0 16384) rfl rfl rfl rfl (by repeat (first | with_reducible exact Sels.nil | apply Sels.ro (by with_reducible repeat (first | exact zS .. | apply zO)) (by rfl) | apply Sels.own (by with_reducible repeat (first | exact Sel.head | apply Sel.tail)))) ?_
  (try clear hS); rintro _ m _ ⟨rfl, rfl⟩ hS; (try simp only [zC, zN] at hS); refine ⟨_, rfl, ?_⟩
  obtain ⟨q, h5⟩ : ∃ q, rdN 16384 (l0, e0) = q := ⟨_, rfl⟩
  have hn := rdN_le 16384 (l0, e0)
  rw [h5] at hS hn ⊢
  obtain ⟨n5, l5, e5⟩ := q
  dsimp only at hS hn ⊢
  obtain ⟨R, hR⟩ : ∃ R, trdQ n5 [] (l5, e5) = R := ⟨_, rfl⟩
  rw [hR]
  refine RL.A1 T_ok rfl ?_
  refine RL.N1 ?_; (with_reducible repeat (first | refine QN.B1 ?_ | refine QN.N1 ?_ | refine WP.S1 ?_ | refine WP.B1 ?_ | refine WP.R1 ?_))
  refine WP.loop (X := Nat × List Trn × List Nat × Value × List UInt8 × Int) (fun q => [(0, .pointer (some ⟨b, 0, none⟩)), (5, q.2.2.2.1), (6, .int .u64 q.1)])
    (fun q m => R = trdQ q.1 q.2.1 (q.2.2.2.2.1, q.2.2.2.2.2) ∧ q.2.1.length + q.1 ≤ 16384 ∧ Tr m0 PP X m [qdA b q.2.2.2.2.1 q.2.2.2.2.2, ownA q.2.2.1 57 4 q.2.2.2.1 q.2.1.length (q.2.1.flatMap tC)]) (fun q => q.1)
    (n5, [], [], .slice none 0 0, l5, e5) (Sub.C1 rfl (Sub.C1 rfl (Sub.C1 rfl Sub.nil))) ⟨hR.symm, by simpa using hn, ?_⟩ ?_
  · have hS := hS.empty 57 4 none
    exact Tr.drop (H := [_, _]) (hS.sels (by repeat (first | with_reducible exact Sels.nil | apply Sels.ro (by repeat (first | exact zS .. | with_reducible apply zO)) (by rfl) | apply Sels.own (by repeat (first | exact Sel.head | with_reducible apply Sel.tail)))))
  clear hS
  rintro ⟨n, out, S, tv, l, e⟩ m ⟨hst, hlen, hS⟩
  dsimp only at hst hlen hS ⊢
  have out_ : R = (out, l, e) → ∀ m, Tr m0 PP X m [qdA b l e, ownA S 57 4 tv out.length (out.flatMap tC)] → ∃ r, Ending.returned tv = .returned r ∧ ∃ H', RTP b R r H' ∧ Tr m0 PP X m H' := fun h m hS => by
    subst h
    exact ⟨_, rfl, [_, _], ⟨S, rfl⟩, Tr.drop (H := [_, _]) (hS.sels (by repeat (first | with_reducible exact Sels.nil | apply Sels.ro (by repeat (first | exact zS .. | with_reducible apply zO)) (by rfl) | apply Sels.own (by repeat (first | exact Sel.head | with_reducible apply Sel.tail)))))⟩
  (with_reducible repeat (first | refine WP.S1 ?_ | refine WP.B1 ?_ | refine WP.R1 ?_))
  refine RL.pure T_ok 2 rfl ?_
  by_cases hn0 : n = 0
  · subst hn0
    refine RL.eqv (v' := .bool false) (zV (dF (by omega))) ?_
    refine RL.A1 T_ok rfl ?_
    refine RL.N1 ?_; (with_reducible repeat (first | refine QN.B1 ?_ | refine QN.N1 ?_ | refine WP.S1 ?_ | refine WP.B1 ?_ | refine WP.R1 ?_))
    refine WP.condF rfl ?_
    refine WP.exit ?_; (with_reducible repeat (first | refine QN.tx ?_ | refine QN.bx ?_ | refine QN.block_far rfl ?_ | refine QN.B1 ?_ | refine QN.N1 ?_)); (with_reducible repeat (first | refine WP.S1 ?_ | refine WP.B1 ?_ | refine WP.R1 ?_))
    refine RL.A1 T_ok rfl ?_
    refine RL.N1 ?_; (with_reducible repeat (first | refine QN.B1 ?_ | refine QN.N1 ?_ | refine WP.S1 ?_ | refine WP.B1 ?_ | refine WP.R1 ?_))
    refine WP.ret ?_; (with_reducible repeat (first | refine QN.tr ?_ | refine QN.br ?_))
    simp only [trdQ] at hst
    exact QN.ret1 rfl rfl (out_ hst _ hS)
  obtain ⟨n', rfl⟩ : ∃ n', n = n' + 1 := ⟨n - 1, by omega⟩
  refine RL.eqv (v' := .bool true) (zV (dT (by omega))) ?_
  obtain ⟨pv, hB, _⟩ := hS.mem (A := qdA b l e) (by simp)
  refine RL.A1 T_ok rfl ?_
  refine RL.load T_ok rfl rfl rfl (hB.cell 1 rfl) rfl ?_
  refine RL.pure T_ok 1 rfl ?_
  simp only [trdQ] at hst
  by_cases he : e = 0
  rotate_left
  · refine RL.eqv (v' := .bool false) (zV (bF he)) ?_
    refine RL.A1 T_ok rfl ?_
    refine RL.N1 ?_; (with_reducible repeat (first | refine QN.B1 ?_ | refine QN.N1 ?_ | refine WP.S1 ?_ | refine WP.B1 ?_ | refine WP.R1 ?_))
    refine WP.condF rfl ?_
    refine WP.exit ?_; (with_reducible repeat (first | refine QN.tx ?_ | refine QN.bx ?_ | refine QN.block_far rfl ?_ | refine QN.B1 ?_ | refine QN.N1 ?_)); (with_reducible repeat (first | refine WP.S1 ?_ | refine WP.B1 ?_ | refine WP.R1 ?_))
    refine RL.A1 T_ok rfl ?_
    refine RL.N1 ?_; (with_reducible repeat (first | refine QN.B1 ?_ | refine QN.N1 ?_ | refine WP.S1 ?_ | refine WP.B1 ?_ | refine WP.R1 ?_))
    refine WP.ret ?_; (with_reducible repeat (first | refine QN.tr ?_ | refine QN.br ?_))
    rw [if_neg he] at hst
    exact QN.ret1 rfl rfl (out_ hst _ hS)
  rw [if_pos he] at hst
  refine RL.eqv (v' := .bool true) (zV (beq_iff_eq.2 he)) ?_
  clear out_
  refine RL.A1 T_ok rfl ?_
  refine RL.N1 ?_; (with_reducible repeat (first | refine QN.B1 ?_ | refine QN.N1 ?_ | refine WP.S1 ?_ | refine WP.B1 ?_ | refine WP.R1 ?_))
  refine WP.condT rfl ?_
  refine WP.skip ?_; (with_reducible repeat (first | refine QN.B1 ?_ | refine QN.N1 ?_ | refine WP.S1 ?_ | refine WP.B1 ?_ | refine WP.R1 ?_))
  repeat (first | refine RL.autoP T_ok rfl rfl ?_ | refine RL.loadM T_ok hS rfl rfl rfl (by with_reducible repeat (first | exact zS .. | apply zO)) (by rfl) (by rfl) ?_ | refine RL.lsM T_ok hS rfl rfl rfl (by with_reducible repeat (first | exact zS .. | apply zO)) (by rfl) (by rfl) (by rfl) ?_ | (refine RL.N1 ?_; (with_reducible repeat (first | refine QN.B1 ?_ | refine QN.N1 ?_))) | with_reducible refine WP.S1 ?_ | with_reducible refine WP.B1 ?_ | with_reducible refine WP.R1 ?_ | (refine WP.skip ?_; (with_reducible repeat (first | refine QN.B1 ?_ | refine QN.N1 ?_))) | refine WP.condT rfl ?_ | refine WP.condF rfl ?_)
  refine RL.callM (fi := []) (ca := []) hS (quint_s b l e 18446744073709551615) rfl rfl rfl rfl (by repeat (first | with_reducible exact Sels.nil | apply Sels.ro (by with_reducible repeat (first | exact zS .. | apply zO)) (by rfl) | apply Sels.own (by with_reducible repeat (first | exact Sel.head | apply Sel.tail)))) ?_
  (try clear hS); rintro _ m _ ⟨rfl, rfl⟩ hS; (try simp only [zC, zN] at hS); refine ⟨_, rfl, ?_⟩
  obtain ⟨q, g1⟩ : ∃ q, rdN 18446744073709551615 (l, e) = q := ⟨_, rfl⟩
  rw [g1] at hS ⊢
  obtain ⟨x1, la, ea⟩ := q
  dsimp only at hS ⊢
  repeat (first | refine RL.autoP T_ok rfl rfl ?_ | refine RL.loadM T_ok hS rfl rfl rfl (by with_reducible repeat (first | exact zS .. | apply zO)) (by rfl) (by rfl) ?_ | refine RL.lsM T_ok hS rfl rfl rfl (by with_reducible repeat (first | exact zS .. | apply zO)) (by rfl) (by rfl) (by rfl) ?_ | (refine RL.N1 ?_; (with_reducible repeat (first | refine QN.B1 ?_ | refine QN.N1 ?_))) | with_reducible refine WP.S1 ?_ | with_reducible refine WP.B1 ?_ | with_reducible refine WP.R1 ?_ | (refine WP.skip ?_; (with_reducible repeat (first | refine QN.B1 ?_ | refine QN.N1 ?_))) | refine WP.condT rfl ?_ | refine WP.condF rfl ?_)
  refine RL.callM (fi := []) (ca := []) hS (quint_s b la ea 18446744073709551615) rfl rfl rfl rfl (by repeat (first | with_reducible exact Sels.nil | apply Sels.ro (by with_reducible repeat (first | exact zS .. | apply zO)) (by rfl) | apply Sels.own (by with_reducible repeat (first | exact Sel.head | apply Sel.tail)))) ?_
  (try clear hS); rintro _ m _ ⟨rfl, rfl⟩ hS; (try simp only [zC, zN] at hS); refine ⟨_, rfl, ?_⟩
  obtain ⟨q, g2⟩ : ∃ q, rdN 18446744073709551615 (la, ea) = q := ⟨_, rfl⟩
  rw [g2] at hS ⊢
  obtain ⟨x2, lb, eb⟩ := q
  dsimp only at hS ⊢
  repeat (first | refine RL.autoP T_ok rfl rfl ?_ | refine RL.loadM T_ok hS rfl rfl rfl (by with_reducible repeat (first | exact zS .. | apply zO)) (by rfl) (by rfl) ?_ | refine RL.lsM T_ok hS rfl rfl rfl (by with_reducible repeat (first | exact zS .. | apply zO)) (by rfl) (by rfl) (by rfl) ?_ | (refine RL.N1 ?_; (with_reducible repeat (first | refine QN.B1 ?_ | refine QN.N1 ?_))) | with_reducible refine WP.S1 ?_ | with_reducible refine WP.B1 ?_ | with_reducible refine WP.R1 ?_ | (refine WP.skip ?_; (with_reducible repeat (first | refine QN.B1 ?_ | refine QN.N1 ?_))) | refine WP.condT rfl ?_ | refine WP.condF rfl ?_)
  refine RL.callM (fi := []) (ca := []) hS (quint_s b lb eb 18446744073709551615) rfl rfl rfl rfl (by repeat (first | with_reducible exact Sels.nil | apply Sels.ro (by with_reducible repeat (first | exact zS .. | apply zO)) (by rfl) | apply Sels.own (by with_reducible repeat (first | exact Sel.head | apply Sel.tail)))) ?_
  (try clear hS); rintro _ m _ ⟨rfl, rfl⟩ hS; (try simp only [zC, zN] at hS); refine ⟨_, rfl, ?_⟩
  obtain ⟨q, g3⟩ : ∃ q, rdN 18446744073709551615 (lb, eb) = q := ⟨_, rfl⟩
  rw [g3] at hS ⊢
  obtain ⟨x3, lc, ec⟩ := q
  dsimp only at hS ⊢
  repeat (first | refine RL.autoP T_ok rfl rfl ?_ | refine RL.loadM T_ok hS rfl rfl rfl (by with_reducible repeat (first | exact zS .. | apply zO)) (by rfl) (by rfl) ?_ | refine RL.lsM T_ok hS rfl rfl rfl (by with_reducible repeat (first | exact zS .. | apply zO)) (by rfl) (by rfl) (by rfl) ?_ | (refine RL.N1 ?_; (with_reducible repeat (first | refine QN.B1 ?_ | refine QN.N1 ?_))) | with_reducible refine WP.S1 ?_ | with_reducible refine WP.B1 ?_ | with_reducible refine WP.R1 ?_ | (refine WP.skip ?_; (with_reducible repeat (first | refine QN.B1 ?_ | refine QN.N1 ?_))) | refine WP.condT rfl ?_ | refine WP.condF rfl ?_)
  refine RL.callM (fi := []) (ca := []) hS (quint_s b lc ec 18446744073709551615) rfl rfl rfl rfl (by repeat (first | with_reducible exact Sels.nil | apply Sels.ro (by with_reducible repeat (first | exact zS .. | apply zO)) (by rfl) | apply Sels.own (by with_reducible repeat (first | exact Sel.head | apply Sel.tail)))) ?_
  (try clear hS); rintro _ m _ ⟨rfl, rfl⟩ hS; (try simp only [zC, zN] at hS); refine ⟨_, rfl, ?_⟩
  obtain ⟨q, g4⟩ : ∃ q, rdN 18446744073709551615 (lc, ec) = q := ⟨_, rfl⟩
  rw [g4] at hS ⊢
  obtain ⟨x4, ld, ed⟩ := q
  dsimp only at hS ⊢
  have hT : rdTrn 18446744073709551615 18446744073709551615 18446744073709551615 18446744073709551615 (l, e) = (⟨x1, x2, x3, x4⟩, ld, ed) := by
    unfold rdTrn
    rw [g1]
    dsimp only
    rw [g2]
    dsimp only
    rw [g3]
    dsimp only
    rw [g4]
  rw [hT] at hst
  dsimp only at hst
  refine RL.pure T_ok 1 rfl ?_
  refine RL.append1M T_ok hS [.tmp 30] (tC ⟨x1, x2, x3, x4⟩) rfl rfl rfl rfl rfl rfl rfl rfl rfl rfl (by repeat (first | exact Sel.head | apply Sel.tail)) (by simp [Value.cells]) (tC_one _) (by unfold maxLen; omega) (by show (_ + _) * 32 ≤ _; omega) ?_
  clear hS
  intro bb tv' m S' hS
  obtain ⟨tA, tc, rfl, _⟩ := hS.shape
  refine ⟨_, rfl, ?_⟩
  refine RL.A1 T_ok rfl ?_
  refine RL.N1 ?_; (with_reducible repeat (first | refine QN.B1 ?_ | refine QN.N1 ?_ | refine WP.S1 ?_ | refine WP.B1 ?_ | refine WP.R1 ?_))
  refine RL.pure T_ok 2 rfl ?_
  refine RL.eqv (v' := .int .u64 (n' : Nat)) (zV (by rw [wrap_u64_in _ (by omega) (by omega)]; omega)) ?_
  refine RL.A1 T_ok rfl ?_
  refine RL.N1 (QN.round (n', out ++ [⟨x1, x2, x3, x4⟩], S', .slice tA (out.length + 1) tc, ld, ed) (Sub.C1 rfl (Sub.C1 rfl (Sub.C1 rfl Sub.nil))) ⟨hst, by simp only [zL, List.length_singleton]; omega, ?_⟩ (by dsimp only; omega))
  have e1 : (out ++ [(⟨x1, x2, x3, x4⟩ : Trn)]).flatMap tC = out.flatMap tC ++ tC ⟨x1, x2, x3, x4⟩ := by simp
  dsimp only
  rw [e1, zL, List.length_singleton]
  exact Tr.drop (H := [_, _]) (hS.sels (by repeat (first | with_reducible exact Sels.nil | apply Sels.ro (by repeat (first | exact zS .. | with_reducible apply zO)) (by rfl) | apply Sels.own (by repeat (first | exact Sel.head | with_reducible apply Sel.tail)))))
end Go.Proofs.YtmjpcaiehfimgaaGreatDoor
end
