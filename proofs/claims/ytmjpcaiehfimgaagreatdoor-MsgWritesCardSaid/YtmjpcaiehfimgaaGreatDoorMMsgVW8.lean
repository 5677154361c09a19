/- Texts that belong together. -/
import Derived.Test.YtmjpcaiehfimgaaGreatDoorMMsgVW7
import Derived.Test.YtmjpcaiehfimgaaGreatDoorRows
import Derived.Lib.LaidU8T
import Derived.Lib.LaidIn
section
namespace Go.Proofs.YtmjpcaiehfimgaaGreatDoor
open Go.RowKit Go.Ev Go.Ids
theorem RL.litM {P : Program} {ops : Array Oper} {Q : Exit → Act → World → Prop} {n : Nat} {e : Env} {D : Fr} {T : Ty} {m0 m : World} {M0 X : List Nat} {H : List Asn} {rest : List Oper} {d : Option Tmp} {t te ty : TypeId} {pos : String} {aft : Array Edge} {g : Option (Nat × Bool)} {r : Row} (hT : T.Ok P) (hS : Tr m0 M0 X m H) {k : Nat} {parts : Array (Nat × Operand)} (xs : List Operand) {us : List Value} (cs : List Value) (he : T.elem t = some (te, r)) (hparts : parts = (opsParts 0 xs).toArray) (hk : xs.length = k) (hne : Nat.blt 0 k = true) (hsm : Nat.ble k 16000 = true)
    (hus : e.evs xs = some us) (hu : ∀ u ∈ us, u.cells.size = r.size) (hcs : us.flatMap (·.cells.toList) = cs) (hg : gd ops e ⟨d, .buildSlice t k parts, ty, pos, aft, g⟩ = some true) (hl : cs.length = k * r.size)
    (h : ∀ b m', Tr m0 M0 X m' (ownA [b] te r.size (.slice (some ⟨b, 0, none⟩) k k) k cs :: H) → ∃ e', putE n d (.slice (some ⟨b, 0, none⟩) k k) e = some e' ∧ RL P ops Q rest n e' D m') :
    RL P ops Q (⟨d, .buildSlice t k parts, ty, pos, aft, g⟩ :: rest) n e D m :=
  RL.buildSlice hT xs cs he hparts hk hne hsm hus hu hcs hg (fun b m' hb hC => h b m' ((hS.alloc hC hb).turn (B := ownA [b] te r.size (.slice (some ⟨b, 0, none⟩) k k) k cs) (fun hP => Own.new hP hl (by have := Nat.le_of_ble_eq_true hsm; unfold maxLen; omega)) (fun _ hk => hk) (by simp [ownA])))
theorem byte_of (K : Int) : ∃ kb : UInt8, IntKind.u8.wrap K = (kb.toNat : Int) := by
  rw [wrap_u8]
  refine ⟨UInt8.ofNat (K % 256).toNat, ?_⟩
  have : (K % 256).toNat < 256 := by omega
  rw [UInt8.toNat_ofNat_of_lt' this]; omega
theorem byte_is {K : Int} {kb : UInt8} (h : IntKind.u8.wrap K = (kb.toNat : Int)) (k : Nat) (hk : k < 256) (hK : K = k) : kb = UInt8.ofNat k := by
  subst hK
  rw [wrap_u8] at h
  refine UInt8.toNat_inj.1 ?_
  rw [UInt8.toNat_ofNat_of_lt' hk]; omega
theorem ok1_iff {c n : Nat} {room b : List UInt8} {vec : List Clk} {turns : List Trn} : Msg.Ok txt ⟨1, c, n, room, vec, turns, b⟩ ↔ (n = 0 ∧ b.length = 0 ∧ (vclean vec).length ≤ 16384 ∧ (tnorm turns).length ≤ 16384) ∧ 1 ≤ c ∧ c ≤ 9007199254740991 ∧ 1 ≤ room.length ∧ room.length ≤ 32 ∧ txt room = true := by
  unfold Msg.Ok
  dsimp only
  constructor
  · rintro (⟨_, h2, rfl, h4, h5, h6⟩ | ⟨h, _⟩ | ⟨h, _⟩)
    · rcases h6 with ⟨_, g1, g2, g3, g4, g5⟩ | ⟨h, _⟩
      · exact ⟨⟨h2, rfl, h4, h5⟩, g1, g2, List.length_pos_iff.2 g3, g4, g5⟩
      · omega
    · omega
    · omega
  · rintro ⟨⟨h2, h3, h4, h5⟩, g1, g2, g3, g4, g5⟩
    exact .inl ⟨.inl rfl, h2, List.length_eq_zero_iff.1 h3, h4, h5, .inl ⟨rfl, g1, g2, List.length_pos_iff.1 g3, g4, g5⟩⟩
theorem ok2_iff {c n : Nat} {room b : List UInt8} {vec : List Clk} {turns : List Trn} : Msg.Ok txt ⟨2, c, n, room, vec, turns, b⟩ ↔ (n = 0 ∧ b.length = 0 ∧ (vclean vec).length ≤ 16384 ∧ (tnorm turns).length ≤ 16384) ∧ c = 0 ∧ room = [] := by
  unfold Msg.Ok
  dsimp only
  constructor
  · rintro (⟨_, h2, rfl, h4, h5, h6⟩ | ⟨h, _⟩ | ⟨h, _⟩)
    · rcases h6 with ⟨h, _⟩ | ⟨_, g1, g2⟩
      · omega
      · exact ⟨⟨h2, rfl, h4, h5⟩, g1, g2⟩
    · omega
    · omega
  · rintro ⟨⟨h2, h3, h4, h5⟩, g1, g2⟩
    exact .inl ⟨.inr rfl, h2, List.length_eq_zero_iff.1 h3, h4, h5, .inr ⟨rfl, g1, g2⟩⟩
theorem ok3_iff {c n : Nat} {room b : List UInt8} {vec : List Clk} {turns : List Trn} : Msg.Ok txt ⟨3, c, n, room, vec, turns, b⟩ ↔ vec.length + turns.length = 0 ∧ c = 0 ∧ room = [] ∧ b.length ≤ 1048576 ∧ n ≤ 9007199254740991 := by
  unfold Msg.Ok
  dsimp only
  constructor
  · rintro (⟨h, _⟩ | ⟨_, g1, g2, rfl, rfl, g5, g6, _⟩ | ⟨h, _⟩)
    · omega
    · exact ⟨rfl, g1, g2, g5, g6⟩
    · omega
  · rintro ⟨h, g1, g2, g5, g6⟩
    exact .inr (.inl ⟨.inl rfl, g1, g2, List.length_eq_zero_iff.1 (by omega), List.length_eq_zero_iff.1 (by omega), g5, g6, fun h => by omega⟩)
theorem ok5_iff {c n : Nat} {room b : List UInt8} {vec : List Clk} {turns : List Trn} : Msg.Ok txt ⟨5, c, n, room, vec, turns, b⟩ ↔ (vec.length + turns.length = 0 ∧ c = 0 ∧ room = [] ∧ b.length ≤ 1048576 ∧ n ≤ 9007199254740991) ∧ n = 0 := by
  unfold Msg.Ok
  dsimp only
  constructor
  · rintro (⟨h, _⟩ | ⟨_, g1, g2, rfl, rfl, g5, g6, g7⟩ | ⟨h, _⟩)
    · omega
    · exact ⟨⟨rfl, g1, g2, g5, g6⟩, g7 rfl⟩
    · omega
  · rintro ⟨⟨h, g1, g2, g5, g6⟩, g7⟩
    exact .inr (.inl ⟨.inr rfl, g1, g2, List.length_eq_zero_iff.1 (by omega), List.length_eq_zero_iff.1 (by omega), g5, g6, fun _ => g7⟩)
theorem ok46_iff {K : Int} {c n : Nat} {room b : List UInt8} {vec : List Clk} {turns : List Trn} (hK : K = 4 ∨ K = 6) : Msg.Ok txt ⟨K, c, n, room, vec, turns, b⟩ ↔ vec.length + turns.length = 0 ∧ c = 0 ∧ room = [] ∧ b.length = 0 ∧ 1 ≤ n ∧ n ≤ 9007199254740991 := by
  unfold Msg.Ok
  dsimp only
  constructor
  · rintro (⟨h, _⟩ | ⟨h, _⟩ | ⟨_, g1, g2, rfl, rfl, rfl, g6, g7⟩)
    · omega
    · omega
    · exact ⟨rfl, g1, g2, rfl, g6, g7⟩
  · rintro ⟨h, g1, g2, g5, g6, g7⟩
    exact .inr (.inr ⟨hK, g1, g2, List.length_eq_zero_iff.1 (by omega), List.length_eq_zero_iff.1 (by omega), List.length_eq_zero_iff.1 g5, g6, g7⟩)
theorem ok0_iff {K : Int} {c n : Nat} {room b : List UInt8} {vec : List Clk} {turns : List Trn} (h1 : K ≠ 1) (h2 : K ≠ 2) (h3 : K ≠ 3) (h4 : K ≠ 4) (h5 : K ≠ 5) (h6 : K ≠ 6) : ¬ Msg.Ok txt ⟨K, c, n, room, vec, turns, b⟩ := by
  unfold Msg.Ok
  dsimp only
  rintro (⟨h, _⟩ | ⟨h, _⟩ | ⟨h, _⟩) <;> omega
set_option maxRecDepth 20000 in
theorem refwrite_s (g : Msg) (vv tv bv : Value) (hroom : g.room.length ≤ 5000) (hvec : g.vec.length ≤ 16384) (hturns : g.turns.length ≤ 5000) (hb : g.b.length ≤ 5000) (hcl : g.c < 18446744073709551616) (hnl : g.n < 18446744073709551616) : DoS Tryz.prog 9 [.agg (mC g vv tv bv).toArray] (mR g vv tv bv) (WriteP g) := by
  intro m0 X hS
  obtain ⟨K, c, n, room, vec, turns, b⟩ := g
  simp only at hroom hvec hturns hb hcl hnl
  obtain ⟨PP, hP⟩ : ∃ PP, ofps (mR ⟨K, c, n, room, vec, turns, b⟩ vv tv bv) = PP := ⟨_, rfl⟩
  rw [hP] at hS ⊢
  clear hP
  have hS : Tr m0 PP X m0 [roA 2 vv (vec.flatMap cC), roA 4 tv (turns.flatMap tC), roA 1 bv (u8s b)] := hS
  obtain ⟨vA, vc, rfl, _, _⟩ := Sl.shape (n := vec.length) (hS.mem (A := roA 2 vv (vec.flatMap cC)) (by simp)).1 (csC_len _) (by omega)
  obtain ⟨tA, tc, rfl, _, _⟩ := Sl.shape (n := turns.length) (hS.mem (A := roA 4 tv (turns.flatMap tC)) (by simp)).1 (tsC_len _) (by omega)
  obtain ⟨bA, bc, rfl, _, _⟩ := Sl.shape (n := b.length) (hS.mem (A := roA 1 bv (u8s b)) (by simp)).1 (by simp [u8s]) (by omega)
  have hvl := vclean_len vec
  have htl := tnorm_len turns
  have htt : turns.length * (2 * turns.length) < 100000000 := by
    have := Nat.mul_le_mul hturns (show 2 * turns.length ≤ 10000 by omega)
    omega
  have hvc := vclean_canon vec
  have htc := (tnorm_canon turns).1
  refine FnE.enter ⟨_, Tryz.func9, by kernel_rfl, by kernel_rfl⟩ Tryz.func9 rfl rfl ?_
  (with_reducible repeat (first | refine WP.S1 ?_ | refine WP.B1 ?_ | refine WP.R1 ?_))
  refine RL.boxS hS rfl rfl rfl ?_; (try clear hS); intro b1 m hS; refine ⟨_, rfl, ?_⟩
  dsimp only [mC] at hS
  refine RL.A1 T_ok rfl ?_
  refine RL.N1 ?_; (with_reducible repeat (first | refine QN.B1 ?_ | refine QN.N1 ?_ | refine WP.S1 ?_ | refine WP.B1 ?_ | refine WP.R1 ?_))
  refine WP.drawS [blkA b1 27 [.int .i64 K, .int .u64 c, .int .u64 n, .string (str room), .slice vA vec.length vc, .slice tA turns.length tc, .slice bA b.length bc]] [] hS (by repeat (first | exact AllIn.nil | refine AllIn.cons (by repeat (first | with_reducible exact zS .. | exact zS .. | with_reducible apply zO)) ?_)) (by kernel_rfl) (by with_reducible repeat (first | exact PanicOk.body | refine PanicOk.then_ ?_ | refine PanicOk.block_ ?_)) (fun hQ => ?_)
  refine RH.pure T_ok hQ [0] (by kernel_rfl) rfl ?_
  refine RH.loadM T_ok hQ 1 rfl (by kernel_rfl) rfl rfl rfl (by with_reducible repeat (first | exact zS .. | apply zO)) (by rfl) (by rfl) ?_
  refine RH.pure T_ok hQ [3] (by kernel_rfl) rfl ?_
  refine RH.loadM T_ok hQ 4 rfl (by kernel_rfl) rfl rfl rfl (by with_reducible repeat (first | exact zS .. | apply zO)) (by rfl) (by rfl) ?_
  refine RH.only 2 rfl (by kernel_rfl) (fun _ => ?_)
  refine RL.callM (fi := []) (ca := []) hS (refvclean_s _ vec (by omega)) rfl rfl rfl rfl (by repeat (first | with_reducible exact Sels.nil | apply Sels.ro (by with_reducible repeat (first | exact zS .. | apply zO)) (by rfl) | apply Sels.own (by with_reducible repeat (first | exact Sel.head | apply Sel.tail)))) ?_
  rintro r1 m _ ⟨S1, rfl⟩ hS
  simp only [zC, zN] at hS
  obtain ⟨A1, c1, rfl, _⟩ := hS.shape
  have hS := Tr.freeze hS (by omega)
  refine ⟨_, rfl, ?_⟩
  refine RL.N1 (RH.contM hS (by repeat (first | exact AllIn.nil | refine AllIn.cons (by repeat (first | with_reducible exact zS .. | exact zS .. | with_reducible apply zO)) ?_)) ?_)
  refine RH.only 5 rfl (by kernel_rfl) (fun _ => ?_)
  refine RL.callM (fi := []) (ca := []) hS (refturns_s _ turns htt) rfl rfl rfl rfl (by repeat (first | with_reducible exact Sels.nil | apply Sels.ro (by with_reducible repeat (first | exact zS .. | apply zO)) (by rfl) | apply Sels.own (by with_reducible repeat (first | exact Sel.head | apply Sel.tail)))) ?_
  rintro r2 m _ ⟨S2, rfl⟩ hS
  simp only [zC, zN] at hS
  obtain ⟨A2, c2, rfl, _⟩ := hS.shape
  have hS := Tr.freeze hS (by omega)
  refine ⟨_, rfl, ?_⟩
  refine RL.N1 (RH.contM hS (by repeat (first | exact AllIn.nil | refine AllIn.cons (by repeat (first | with_reducible exact zS .. | exact zS .. | with_reducible apply zO)) ?_)) ?_)
  refine RH.pure T_ok hQ [6, 7] (by kernel_rfl) rfl ?_
  refine RH.done (by kernel_rfl) (fun _ => ?_)
  (with_reducible repeat (first | refine QN.B1 ?_ | refine QN.N1 ?_))
  (with_reducible repeat (first | refine WP.S1 ?_ | refine WP.B1 ?_ | refine WP.R1 ?_))
  refine RL.pure T_ok 1 rfl ?_
  refine RL.loadM T_ok hS rfl rfl rfl (by with_reducible repeat (first | exact zS .. | apply zO)) (by rfl) (by rfl) ?_
  refine RL.pure T_ok 2 rfl ?_
  refine RL.loadM T_ok hS rfl rfl rfl (by with_reducible repeat (first | exact zS .. | apply zO)) (by rfl) (by rfl) ?_
  refine RL.pure T_ok 2 rfl ?_
  refine RL.eqv (v' := .int .i64 ((vec.length + turns.length : Nat) : Int)) (congrArg _ (by rw [wrap_i64_in _ (by omega) (by omega)]; omega)) ?_
  refine RL.pure T_ok 1 rfl ?_
  refine RL.eqv (v' := .bool (decide (0 < vec.length + turns.length))) (congrArg _ (decide_eq_decide.2 (by omega))) ?_
  refine RL.A1 T_ok rfl ?_
  refine RL.N1 ?_; (with_reducible repeat (first | refine QN.B1 ?_ | refine QN.N1 ?_ | refine WP.S1 ?_ | refine WP.B1 ?_ | refine WP.R1 ?_))
  refine RL.pure T_ok 1 rfl ?_
  refine RL.loadM T_ok hS rfl rfl rfl (by with_reducible repeat (first | exact zS .. | apply zO)) (by rfl) (by rfl) ?_
  refine RL.pure T_ok 1 rfl ?_
  obtain ⟨kb, hkw⟩ := byte_of K
  refine RL.eqv (v' := .int .u8 kb.toNat) (congrArg _ hkw) ?_
  refine RL.litM T_ok hS [.tmp 25] (us := [.int .u8 kb.toNat]) (u8s [kb]) rfl rfl rfl rfl rfl rfl (by simp [Value.cells]) rfl rfl rfl ?_
  clear hS
  intro b2 m hS
  refine ⟨_, rfl, ?_⟩
  refine RL.A1 T_ok rfl ?_
  refine RL.N1 ?_; (with_reducible repeat (first | refine QN.B1 ?_ | refine QN.N1 ?_ | refine WP.S1 ?_ | refine WP.B1 ?_ | refine WP.R1 ?_))
  refine RL.A1 T_ok rfl ?_
  refine RL.N1 ?_; (with_reducible repeat (first | refine QN.B1 ?_ | refine QN.N1 ?_))
  refine WP.cut (X := Bool × Value × List Nat × List UInt8) (fun q => [(7, q.2.1), (8, .bool q.1)]) (fun q m => (q.1 = true ↔ Msg.Ok txt ⟨K, c, n, room, vec, turns, b⟩) ∧ (q.1 = true → q.2.2.2 = Msg.enc ⟨K, c, n, room, vec, turns, b⟩) ∧ Tr m0 PP X m [ownA q.2.2.1 5 1 q.2.1 q.2.2.2.length (u8s q.2.2.2)]) ?_ ?_
  rotate_left
  · rintro ⟨q, w, S, bs⟩ m ⟨hq, he, hS⟩
    dsimp only at hq he hS ⊢
    cases q
    · repeat (first | refine RL.autoP T_ok rfl rfl ?_ | refine RL.loadM T_ok hS rfl rfl rfl (by with_reducible repeat (first | exact zS .. | apply zO)) (by rfl) (by rfl) ?_ | refine RL.lsM T_ok hS rfl rfl rfl (by with_reducible repeat (first | exact zS .. | apply zO)) (by rfl) (by rfl) (by rfl) ?_ | (refine RL.N1 ?_; (with_reducible repeat (first | refine QN.B1 ?_ | refine QN.N1 ?_))) | with_reducible refine WP.S1 ?_ | with_reducible refine WP.B1 ?_ | with_reducible refine WP.R1 ?_ | (refine WP.skip ?_; (with_reducible repeat (first | refine QN.B1 ?_ | refine QN.N1 ?_))) | refine WP.condT rfl ?_ | refine WP.condF rfl ?_)
      refine WP.ret ?_; (with_reducible repeat (first | refine QN.tr ?_ | refine QN.br ?_))
      exact QN.ret2 rfl rfl rfl ⟨_, rfl, [], .inr ⟨by
        rw [← Bool.not_eq_true, ok_iff]; exact fun h => absurd (hq.2 h) (by decide), rfl, rfl⟩, Tr.drop (H := []) hS⟩
    · obtain rfl := he rfl
      repeat (first | refine RL.autoP T_ok rfl rfl ?_ | refine RL.loadM T_ok hS rfl rfl rfl (by with_reducible repeat (first | exact zS .. | apply zO)) (by rfl) (by rfl) ?_ | refine RL.lsM T_ok hS rfl rfl rfl (by with_reducible repeat (first | exact zS .. | apply zO)) (by rfl) (by rfl) (by rfl) ?_ | (refine RL.N1 ?_; (with_reducible repeat (first | refine QN.B1 ?_ | refine QN.N1 ?_))) | with_reducible refine WP.S1 ?_ | with_reducible refine WP.B1 ?_ | with_reducible refine WP.R1 ?_ | (refine WP.skip ?_; (with_reducible repeat (first | refine QN.B1 ?_ | refine QN.N1 ?_))) | refine WP.condT rfl ?_ | refine WP.condF rfl ?_)
      refine WP.ret ?_; (with_reducible repeat (first | refine QN.tr ?_ | refine QN.br ?_))
      exact QN.ret2 rfl rfl rfl ⟨_, rfl, [_], .inl ⟨ok_iff.2 (hq.1 rfl), w, S, rfl, rfl⟩, hS⟩
  have hS : Tr m0 PP X m [ownA [b2] 5 1 (.slice (some ⟨b2, 0, none⟩) 1 1) ([kb]).length (u8s ([kb])), blkA b1 27 [.int .i64 K, .int .u64 c, .int .u64 n, .string (str room), .slice vA vec.length vc, .slice tA turns.length tc, .slice bA b.length bc], roA 2 (.slice A1 (vclean vec).length c1) ((vclean vec).flatMap cC), roA 4 (.slice A2 (tnorm turns).length c2) ((tnorm turns).flatMap tC), roA 1 (.slice bA b.length bc) (u8s b)] := Tr.drop (H := [_, _, _, _, _]) (hS.sels (by repeat (first | with_reducible exact Sels.nil | apply Sels.ro (by repeat (first | exact zS .. | with_reducible apply zO)) (by rfl) | apply Sels.own (by repeat (first | exact Sel.head | with_reducible apply Sel.tail)))))
  by_cases k1 : K = 1
  · subst k1
    obtain rfl := byte_is hkw 1 (by omega) rfl
    (with_reducible repeat (first | refine WP.S1 ?_ | refine WP.B1 ?_ | refine WP.R1 ?_))
    refine RL.pure T_ok 1 rfl ?_
    refine RL.loadM T_ok hS rfl rfl rfl (by with_reducible repeat (first | exact zS .. | apply zO)) (by rfl) (by rfl) ?_
    refine RL.N1 ?_; (with_reducible repeat (first | refine QN.B1 ?_ | refine QN.N1 ?_))
    (with_reducible repeat (first | refine WP.S1 ?_ | refine WP.B1 ?_ | refine WP.R1 ?_))
    refine RL.A1 T_ok rfl ?_
    refine RL.N1 ?_; (with_reducible repeat (first | refine QN.B1 ?_ | refine QN.N1 ?_))
    refine WP.condT rfl ?_
    refine WP.skip ?_; (with_reducible repeat (first | refine QN.B1 ?_ | refine QN.N1 ?_))
    refine WP.condT rfl ?_
    refine WP.cut (X := Bool) (fun q => [(1, .pointer (some ⟨b1, 0, none⟩)), (4, .slice A1 (vclean vec).length c1), (5, .slice A2 (tnorm turns).length c2), (6, .bool (decide (0 < vec.length + turns.length))), (7, .slice (some ⟨b2, 0, none⟩) 1 1), (8, .bool q)]) (fun q m => (q = true ↔ n = 0 ∧ b.length = 0 ∧ (vclean vec).length ≤ 16384 ∧ (tnorm turns).length ≤ 16384) ∧ Tr m0 PP X m [ownA [b2] 5 1 (.slice (some ⟨b2, 0, none⟩) 1 1) ([UInt8.ofNat 1]).length (u8s ([UInt8.ofNat 1])), blkA b1 27 [.int .i64 1, .int .u64 c, .int .u64 n, .string (str room), .slice vA vec.length vc, .slice tA turns.length tc, .slice bA b.length bc], roA 2 (.slice A1 (vclean vec).length c1) ((vclean vec).flatMap cC), roA 4 (.slice A2 (tnorm turns).length c2) ((tnorm turns).flatMap tC), roA 1 (.slice bA b.length bc) (u8s b)]) ?_ ?_
    · skip
      (with_reducible repeat (first | refine WP.S1 ?_ | refine WP.B1 ?_ | refine WP.R1 ?_))
      refine RL.pure T_ok 1 rfl ?_
      refine RL.loadM T_ok hS rfl rfl rfl (by with_reducible repeat (first | exact zS .. | apply zO)) (by rfl) (by rfl) ?_
      refine RL.pure T_ok 1 rfl ?_
      by_cases g0 : n = 0
      rotate_left
      · refine RL.eqv (v' := .bool false) (congrArg _ (beq_false_of_ne (by omega))) ?_
        refine RL.A1 T_ok rfl ?_
        exact RL.N1 (QN.cutEnd false (Sub.C1 rfl (Sub.C1 rfl (Sub.C1 rfl (Sub.C1 rfl (Sub.C1 rfl (Sub.C1 rfl Sub.nil)))))) ⟨⟨(by intro h; cases h), fun h => absurd (h.1) g0⟩, hS⟩)
      refine RL.eqv (v' := .bool true) (congrArg _ (beq_iff_eq.2 (by omega))) ?_
      refine RL.pure T_ok 2 rfl ?_
      refine RL.loadM T_ok hS rfl rfl rfl (by with_reducible repeat (first | exact zS .. | apply zO)) (by rfl) (by rfl) ?_
      refine RL.pure T_ok 2 rfl ?_
      by_cases g1 : b.length = 0
      rotate_left
      · refine RL.eqv (v' := .bool false) (congrArg _ (beq_false_of_ne (by omega))) ?_
        refine RL.A1 T_ok rfl ?_
        exact RL.N1 (QN.cutEnd false (Sub.C1 rfl (Sub.C1 rfl (Sub.C1 rfl (Sub.C1 rfl (Sub.C1 rfl (Sub.C1 rfl Sub.nil)))))) ⟨⟨(by intro h; cases h), fun h => absurd (h.2.1) g1⟩, hS⟩)
      refine RL.eqv (v' := .bool true) (congrArg _ (beq_iff_eq.2 (by omega))) ?_
      refine RL.pure T_ok 5 rfl ?_
      by_cases g2 : (vclean vec).length ≤ 16384
      rotate_left
      · refine RL.eqv (v' := .bool false) (congrArg _ (decide_eq_false (by omega))) ?_
        refine RL.A1 T_ok rfl ?_
        exact RL.N1 (QN.cutEnd false (Sub.C1 rfl (Sub.C1 rfl (Sub.C1 rfl (Sub.C1 rfl (Sub.C1 rfl (Sub.C1 rfl Sub.nil)))))) ⟨⟨(by intro h; cases h), fun h => absurd (h.2.2.1) g2⟩, hS⟩)
      refine RL.eqv (v' := .bool true) (congrArg _ (decide_eq_true (by omega))) ?_
      refine RL.pure T_ok 5 rfl ?_
      by_cases g3 : (tnorm turns).length ≤ 16384
      rotate_left
      · refine RL.eqv (v' := .bool false) (congrArg _ (decide_eq_false (by omega))) ?_
        refine RL.A1 T_ok rfl ?_
        exact RL.N1 (QN.cutEnd false (Sub.C1 rfl (Sub.C1 rfl (Sub.C1 rfl (Sub.C1 rfl (Sub.C1 rfl (Sub.C1 rfl Sub.nil)))))) ⟨⟨(by intro h; cases h), fun h => absurd (h.2.2.2) g3⟩, hS⟩)
      refine RL.eqv (v' := .bool true) (congrArg _ (decide_eq_true (by omega))) ?_
      refine RL.A1 T_ok rfl ?_
      exact RL.N1 (QN.cutEnd true (Sub.C1 rfl (Sub.C1 rfl (Sub.C1 rfl (Sub.C1 rfl (Sub.C1 rfl (Sub.C1 rfl Sub.nil)))))) ⟨⟨fun _ => ⟨g0, g1, g2, g3⟩, fun _ => rfl⟩, hS⟩)
    clear hS
    rintro q m ⟨hA, hS⟩
    (with_reducible repeat (first | refine WP.S1 ?_ | refine WP.B1 ?_ | refine WP.R1 ?_))
    refine RL.pure T_ok 1 rfl ?_
    refine RL.loadM T_ok hS rfl rfl rfl (by with_reducible repeat (first | exact zS .. | apply zO)) (by rfl) (by rfl) ?_
    refine RL.A1 T_ok rfl ?_
    refine RL.N1 ?_; (with_reducible repeat (first | refine QN.B1 ?_ | refine QN.N1 ?_))
    refine WP.condT rfl ?_
    refine WP.cut (X := Bool) (fun q => [(1, .pointer (some ⟨b1, 0, none⟩)), (4, .slice A1 (vclean vec).length c1), (5, .slice A2 (tnorm turns).length c2), (6, .bool (decide (0 < vec.length + turns.length))), (7, .slice (some ⟨b2, 0, none⟩) 1 1), (8, .bool q)]) (fun q m => (q = true ↔ (n = 0 ∧ b.length = 0 ∧ (vclean vec).length ≤ 16384 ∧ (tnorm turns).length ≤ 16384) ∧ 1 ≤ c ∧ c ≤ 9007199254740991 ∧ 1 ≤ room.length ∧ room.length ≤ 32 ∧ txt room = true) ∧ Tr m0 PP X m [ownA [b2] 5 1 (.slice (some ⟨b2, 0, none⟩) 1 1) ([UInt8.ofNat 1]).length (u8s ([UInt8.ofNat 1])), blkA b1 27 [.int .i64 1, .int .u64 c, .int .u64 n, .string (str room), .slice vA vec.length vc, .slice tA turns.length tc, .slice bA b.length bc], roA 2 (.slice A1 (vclean vec).length c1) ((vclean vec).flatMap cC), roA 4 (.slice A2 (tnorm turns).length c2) ((tnorm turns).flatMap tC), roA 1 (.slice bA b.length bc) (u8s b)]) ?_ ?_
    · (with_reducible repeat (first | refine WP.S1 ?_ | refine WP.B1 ?_ | refine WP.R1 ?_))
      cases q
      · refine RL.A1 T_ok rfl ?_
        exact RL.N1 (QN.cutEnd false (Sub.C1 rfl (Sub.C1 rfl (Sub.C1 rfl (Sub.C1 rfl (Sub.C1 rfl (Sub.C1 rfl Sub.nil)))))) ⟨⟨(by intro h; cases h), fun h => absurd (hA.2 h.1) (by decide)⟩, hS⟩)
      have hA := hA.1 rfl
      refine RL.pure T_ok 3 rfl ?_
      refine RL.loadM T_ok hS rfl rfl rfl (by with_reducible repeat (first | exact zS .. | apply zO)) (by rfl) (by rfl) ?_
      refine RL.pure T_ok 1 rfl ?_
      by_cases g0 : 1 ≤ c
      rotate_left
      · refine RL.eqv (v' := .bool false) (congrArg _ (decide_eq_false (by omega))) ?_
        refine RL.A1 T_ok rfl ?_
        exact RL.N1 (QN.cutEnd false (Sub.C1 rfl (Sub.C1 rfl (Sub.C1 rfl (Sub.C1 rfl (Sub.C1 rfl (Sub.C1 rfl Sub.nil)))))) ⟨⟨(by intro h; cases h), fun h => absurd (h.2.1) g0⟩, hS⟩)
      refine RL.eqv (v' := .bool true) (congrArg _ (decide_eq_true (by omega))) ?_
      refine RL.pure T_ok 3 rfl ?_
      refine RL.loadM T_ok hS rfl rfl rfl (by with_reducible repeat (first | exact zS .. | apply zO)) (by rfl) (by rfl) ?_
      refine RL.pure T_ok 1 rfl ?_
      by_cases g1 : c ≤ 9007199254740991
      rotate_left
      · refine RL.eqv (v' := .bool false) (congrArg _ (decide_eq_false (by omega))) ?_
        refine RL.A1 T_ok rfl ?_
        exact RL.N1 (QN.cutEnd false (Sub.C1 rfl (Sub.C1 rfl (Sub.C1 rfl (Sub.C1 rfl (Sub.C1 rfl (Sub.C1 rfl Sub.nil)))))) ⟨⟨(by intro h; cases h), fun h => absurd (h.2.2.1) g1⟩, hS⟩)
      refine RL.eqv (v' := .bool true) (congrArg _ (decide_eq_true (by omega))) ?_
      refine RL.pure T_ok 3 rfl ?_
      refine RL.loadM T_ok hS rfl rfl rfl (by with_reducible repeat (first | exact zS .. | apply zO)) (by rfl) (by rfl) ?_
      refine RL.pure T_ok 1 rfl ?_
      refine RL.eqv (v' := .int .i64 room.length) (congrArg _ (congrArg _ (str_sz room))) ?_
      refine RL.pure T_ok 1 rfl ?_
      by_cases g2 : 1 ≤ room.length
      rotate_left
      · refine RL.eqv (v' := .bool false) (congrArg _ (decide_eq_false (by omega))) ?_
        refine RL.A1 T_ok rfl ?_
        exact RL.N1 (QN.cutEnd false (Sub.C1 rfl (Sub.C1 rfl (Sub.C1 rfl (Sub.C1 rfl (Sub.C1 rfl (Sub.C1 rfl Sub.nil)))))) ⟨⟨(by intro h; cases h), fun h => absurd (h.2.2.2.1) g2⟩, hS⟩)
      refine RL.eqv (v' := .bool true) (congrArg _ (decide_eq_true (by omega))) ?_
      refine RL.pure T_ok 3 rfl ?_
      refine RL.loadM T_ok hS rfl rfl rfl (by with_reducible repeat (first | exact zS .. | apply zO)) (by rfl) (by rfl) ?_
      refine RL.pure T_ok 1 rfl ?_
      refine RL.eqv (v' := .int .i64 room.length) (congrArg _ (congrArg _ (str_sz room))) ?_
      refine RL.pure T_ok 1 rfl ?_
      by_cases g3 : room.length ≤ 32
      rotate_left
      · refine RL.eqv (v' := .bool false) (congrArg _ (decide_eq_false (by omega))) ?_
        refine RL.A1 T_ok rfl ?_
        exact RL.N1 (QN.cutEnd false (Sub.C1 rfl (Sub.C1 rfl (Sub.C1 rfl (Sub.C1 rfl (Sub.C1 rfl (Sub.C1 rfl Sub.nil)))))) ⟨⟨(by intro h; cases h), fun h => absurd (h.2.2.2.2.1) g3⟩, hS⟩)
      refine RL.eqv (v' := .bool true) (congrArg _ (decide_eq_true (by omega))) ?_
      refine RL.pure T_ok 3 rfl ?_
      refine RL.loadM T_ok hS rfl rfl rfl (by with_reducible repeat (first | exact zS .. | apply zO)) (by rfl) (by rfl) ?_
      refine RL.callM (fi := []) (ca := []) hS (refcheck_s room (by omega)) rfl rfl rfl rfl (by repeat (first | with_reducible exact Sels.nil | apply Sels.ro (by with_reducible repeat (first | exact zS .. | apply zO)) (by rfl) | apply Sels.own (by with_reducible repeat (first | exact Sel.head | apply Sel.tail)))) ?_
      (try clear hS); rintro _ m _ ⟨rfl, rfl⟩ hS; (try simp only [zN] at hS); refine ⟨_, rfl, ?_⟩
      by_cases g4 : txt room = true
      rotate_left
      · refine RL.eqv (v' := .bool false) (congrArg _ (Bool.eq_false_iff.2 g4 : txt room = false)) ?_
        refine RL.A1 T_ok rfl ?_
        exact RL.N1 (QN.cutEnd false (Sub.C1 rfl (Sub.C1 rfl (Sub.C1 rfl (Sub.C1 rfl (Sub.C1 rfl (Sub.C1 rfl Sub.nil)))))) ⟨⟨(by intro h; cases h), fun h => absurd (h.2.2.2.2.2) g4⟩, hS⟩)
      refine RL.eqv (v' := .bool true) (congrArg _ g4) ?_
      refine RL.A1 T_ok rfl ?_
      exact RL.N1 (QN.cutEnd true (Sub.C1 rfl (Sub.C1 rfl (Sub.C1 rfl (Sub.C1 rfl (Sub.C1 rfl (Sub.C1 rfl Sub.nil)))))) ⟨⟨fun _ => ⟨hA, ⟨g0, g1, g2, g3, g4⟩⟩, fun _ => rfl⟩, hS⟩)
    clear hS hA
    rintro q m ⟨hB, hS⟩
    have q1 := encU_len10 (n := c) (by omega)
    have q2 := encS_len room (by omega)
    refine WP.drawS [blkA b1 27 [.int .i64 1, .int .u64 c, .int .u64 n, .string (str room), .slice vA vec.length vc, .slice tA turns.length tc, .slice bA b.length bc]] [] hS (by repeat (first | exact AllIn.nil | refine AllIn.cons (by repeat (first | with_reducible exact zS .. | exact zS .. | with_reducible apply zO)) ?_)) (by kernel_rfl) (by with_reducible repeat (first | exact PanicOk.body | refine PanicOk.then_ ?_ | refine PanicOk.block_ ?_)) (fun hQ => ?_)
    refine RH.pure T_ok hQ [0, 1] (by kernel_rfl) rfl ?_
    refine RH.loadM T_ok hQ 2 rfl (by kernel_rfl) rfl rfl rfl (by with_reducible repeat (first | exact zS .. | apply zO)) (by rfl) (by rfl) ?_
    refine RH.pure T_ok hQ [4] (by kernel_rfl) rfl ?_
    refine RH.loadM T_ok hQ 5 rfl (by kernel_rfl) rfl rfl rfl (by with_reducible repeat (first | exact zS .. | apply zO)) (by rfl) (by rfl) ?_
    refine RH.only 3 rfl (by kernel_rfl) (fun _ => ?_)
    refine RL.callM (fi := []) (ca := []) hS (refuint_s c (by omega) [b2] _ [UInt8.ofNat 1] (by simp)) rfl rfl rfl rfl (by repeat (first | with_reducible exact Sels.nil | apply Sels.ro (by with_reducible repeat (first | exact zS .. | apply zO)) (by rfl) | apply Sels.own (by with_reducible repeat (first | exact Sel.head | apply Sel.tail)))) ?_
    (try clear hS); rintro w1 m _ ⟨S5, rfl⟩ hS; (try simp only [zC, zN] at hS); refine ⟨_, rfl, ?_⟩
    refine RL.N1 (RH.contM hS (by repeat (first | exact AllIn.nil | refine AllIn.cons (by repeat (first | with_reducible exact zS .. | exact zS .. | with_reducible apply zO)) ?_)) ?_)
    refine RH.only 6 rfl (by kernel_rfl) (fun _ => ?_)
    refine RL.callM (fi := []) (ca := []) hS (reftext_s room (by omega) S5 w1 (UInt8.ofNat 1 :: encU c) (by simp only [List.length_cons]; omega)) rfl rfl rfl rfl (by repeat (first | with_reducible exact Sels.nil | apply Sels.ro (by with_reducible repeat (first | exact zS .. | apply zO)) (by rfl) | apply Sels.own (by with_reducible repeat (first | exact Sel.head | apply Sel.tail)))) ?_
    (try clear hS); rintro w2 m _ ⟨S6, rfl⟩ hS; (try simp only [zC, zN] at hS); refine ⟨_, rfl, ?_⟩
    refine RL.N1 (RH.contM hS (by repeat (first | exact AllIn.nil | refine AllIn.cons (by repeat (first | with_reducible exact zS .. | exact zS .. | with_reducible apply zO)) ?_)) ?_)
    refine RH.pure T_ok hQ [7] (by kernel_rfl) rfl ?_
    refine RH.done (by kernel_rfl) (fun _ => ?_)
    (with_reducible repeat (first | refine QN.B1 ?_ | refine QN.N1 ?_))
    (with_reducible repeat (first | refine WP.S1 ?_ | refine WP.B1 ?_ | refine WP.R1 ?_))
    repeat (first | refine RL.autoP T_ok rfl rfl ?_ | refine RL.loadM T_ok hS rfl rfl rfl (by with_reducible repeat (first | exact zS .. | apply zO)) (by rfl) (by rfl) ?_ | refine RL.lsM T_ok hS rfl rfl rfl (by with_reducible repeat (first | exact zS .. | apply zO)) (by rfl) (by rfl) (by rfl) ?_ | (refine RL.N1 ?_; (with_reducible repeat (first | refine QN.B1 ?_ | refine QN.N1 ?_))) | with_reducible refine WP.S1 ?_ | with_reducible refine WP.B1 ?_ | with_reducible refine WP.R1 ?_ | (refine WP.skip ?_; (with_reducible repeat (first | refine QN.B1 ?_ | refine QN.N1 ?_))) | refine WP.condT rfl ?_ | refine WP.condF rfl ?_)
    obtain ⟨pre, hp⟩ : ∃ pre, UInt8.ofNat 1 :: (encU c ++ encS room) = pre := ⟨_, rfl⟩
    have hpl : pre.length ≤ 6000 := by rw [← hp]; simp only [List.length_cons, List.length_append]; omega
    rw [hp] at hS
    refine RL.callM (fi := []) (ca := []) hS (refvwrite_s S6 w2 (pre) _ (vclean vec) (by omega) (by omega)) rfl rfl rfl rfl (by repeat (first | with_reducible exact Sels.nil | apply Sels.ro (by with_reducible repeat (first | exact zS .. | apply zO)) (by rfl) | apply Sels.own (by with_reducible repeat (first | exact Sel.head | apply Sel.tail)))) ?_
    (try clear hS); rintro w3 m _ ⟨S3, rfl⟩ hS; (try simp only [zC, zN] at hS); refine ⟨_, rfl, ?_⟩
    repeat (first | refine RL.autoP T_ok rfl rfl ?_ | refine RL.loadM T_ok hS rfl rfl rfl (by with_reducible repeat (first | exact zS .. | apply zO)) (by rfl) (by rfl) ?_ | refine RL.lsM T_ok hS rfl rfl rfl (by with_reducible repeat (first | exact zS .. | apply zO)) (by rfl) (by rfl) (by rfl) ?_ | (refine RL.N1 ?_; (with_reducible repeat (first | refine QN.B1 ?_ | refine QN.N1 ?_))) | with_reducible refine WP.S1 ?_ | with_reducible refine WP.B1 ?_ | with_reducible refine WP.R1 ?_ | (refine WP.skip ?_; (with_reducible repeat (first | refine QN.B1 ?_ | refine QN.N1 ?_))) | refine WP.condT rfl ?_ | refine WP.condF rfl ?_)
    have q3 := encV_len (vclean_canon (vclean vec)) (by rw [vclean_clean]; omega)
    refine RL.callM (fi := []) (ca := []) hS (refturnsW_s S3 w3 (pre ++ encV (vclean (vclean vec))) _ (tnorm turns) htc (by omega) (by simp only [List.length_append]; omega)) rfl rfl rfl rfl (by repeat (first | with_reducible exact Sels.nil | apply Sels.ro (by with_reducible repeat (first | exact zS .. | apply zO)) (by rfl) | apply Sels.own (by with_reducible repeat (first | exact Sel.head | apply Sel.tail)))) ?_
    (try clear hS); rintro w4 m _ ⟨S4, rfl⟩ hS; (try simp only [zC, zN] at hS); refine ⟨_, rfl, ?_⟩
    refine RL.A1 T_ok rfl ?_
    refine RL.N1 ?_
    (with_reducible repeat (first | refine QN.B1 ?_))
    refine QN.cutEnd (q, w4, S4, _) (Sub.C1 rfl (Sub.C1 rfl Sub.nil)) ⟨hB.trans ok1_iff.symm, fun _ => ?_, Tr.drop (H := [_]) hS⟩
    show _ = Msg.enc _
    rw [vclean_clean, ← hp]
    simp [Msg.enc]
  by_cases k2 : K = 2
  · subst k2
    obtain rfl := byte_is hkw 2 (by omega) rfl
    (with_reducible repeat (first | refine WP.S1 ?_ | refine WP.B1 ?_ | refine WP.R1 ?_))
    refine RL.pure T_ok 1 rfl ?_
    refine RL.loadM T_ok hS rfl rfl rfl (by with_reducible repeat (first | exact zS .. | apply zO)) (by rfl) (by rfl) ?_
    refine RL.N1 ?_; (with_reducible repeat (first | refine QN.B1 ?_ | refine QN.N1 ?_))
    (with_reducible repeat (first | refine WP.S1 ?_ | refine WP.B1 ?_ | refine WP.R1 ?_))
    refine RL.A1 T_ok rfl ?_
    refine RL.N1 ?_; (with_reducible repeat (first | refine QN.B1 ?_ | refine QN.N1 ?_))
    refine WP.condF rfl ?_
    (with_reducible repeat (first | refine WP.S1 ?_ | refine WP.B1 ?_ | refine WP.R1 ?_))
    refine RL.A1 T_ok rfl ?_
    refine RL.N1 ?_; (with_reducible repeat (first | refine QN.B1 ?_ | refine QN.N1 ?_))
    refine WP.condT rfl ?_
    refine WP.cut (X := Bool) (fun q => [(1, .pointer (some ⟨b1, 0, none⟩)), (4, .slice A1 (vclean vec).length c1), (5, .slice A2 (tnorm turns).length c2), (6, .bool (decide (0 < vec.length + turns.length))), (7, .slice (some ⟨b2, 0, none⟩) 1 1), (8, .bool q)]) (fun q m => (q = true ↔ n = 0 ∧ b.length = 0 ∧ (vclean vec).length ≤ 16384 ∧ (tnorm turns).length ≤ 16384) ∧ Tr m0 PP X m [ownA [b2] 5 1 (.slice (some ⟨b2, 0, none⟩) 1 1) ([UInt8.ofNat 2]).length (u8s ([UInt8.ofNat 2])), blkA b1 27 [.int .i64 2, .int .u64 c, .int .u64 n, .string (str room), .slice vA vec.length vc, .slice tA turns.length tc, .slice bA b.length bc], roA 2 (.slice A1 (vclean vec).length c1) ((vclean vec).flatMap cC), roA 4 (.slice A2 (tnorm turns).length c2) ((tnorm turns).flatMap tC), roA 1 (.slice bA b.length bc) (u8s b)]) ?_ ?_
    · skip
      (with_reducible repeat (first | refine WP.S1 ?_ | refine WP.B1 ?_ | refine WP.R1 ?_))
      refine RL.pure T_ok 1 rfl ?_
      refine RL.loadM T_ok hS rfl rfl rfl (by with_reducible repeat (first | exact zS .. | apply zO)) (by rfl) (by rfl) ?_
      refine RL.pure T_ok 1 rfl ?_
      by_cases g0 : n = 0
      rotate_left
      · refine RL.eqv (v' := .bool false) (congrArg _ (beq_false_of_ne (by omega))) ?_
        refine RL.A1 T_ok rfl ?_
        exact RL.N1 (QN.cutEnd false (Sub.C1 rfl (Sub.C1 rfl (Sub.C1 rfl (Sub.C1 rfl (Sub.C1 rfl (Sub.C1 rfl Sub.nil)))))) ⟨⟨(by intro h; cases h), fun h => absurd (h.1) g0⟩, hS⟩)
      refine RL.eqv (v' := .bool true) (congrArg _ (beq_iff_eq.2 (by omega))) ?_
      refine RL.pure T_ok 2 rfl ?_
      refine RL.loadM T_ok hS rfl rfl rfl (by with_reducible repeat (first | exact zS .. | apply zO)) (by rfl) (by rfl) ?_
      refine RL.pure T_ok 2 rfl ?_
      by_cases g1 : b.length = 0
      rotate_left
      · refine RL.eqv (v' := .bool false) (congrArg _ (beq_false_of_ne (by omega))) ?_
        refine RL.A1 T_ok rfl ?_
        exact RL.N1 (QN.cutEnd false (Sub.C1 rfl (Sub.C1 rfl (Sub.C1 rfl (Sub.C1 rfl (Sub.C1 rfl (Sub.C1 rfl Sub.nil)))))) ⟨⟨(by intro h; cases h), fun h => absurd (h.2.1) g1⟩, hS⟩)
      refine RL.eqv (v' := .bool true) (congrArg _ (beq_iff_eq.2 (by omega))) ?_
      refine RL.pure T_ok 5 rfl ?_
      by_cases g2 : (vclean vec).length ≤ 16384
      rotate_left
      · refine RL.eqv (v' := .bool false) (congrArg _ (decide_eq_false (by omega))) ?_
        refine RL.A1 T_ok rfl ?_
        exact RL.N1 (QN.cutEnd false (Sub.C1 rfl (Sub.C1 rfl (Sub.C1 rfl (Sub.C1 rfl (Sub.C1 rfl (Sub.C1 rfl Sub.nil)))))) ⟨⟨(by intro h; cases h), fun h => absurd (h.2.2.1) g2⟩, hS⟩)
      refine RL.eqv (v' := .bool true) (congrArg _ (decide_eq_true (by omega))) ?_
      refine RL.pure T_ok 5 rfl ?_
      by_cases g3 : (tnorm turns).length ≤ 16384
      rotate_left
      · refine RL.eqv (v' := .bool false) (congrArg _ (decide_eq_false (by omega))) ?_
        refine RL.A1 T_ok rfl ?_
        exact RL.N1 (QN.cutEnd false (Sub.C1 rfl (Sub.C1 rfl (Sub.C1 rfl (Sub.C1 rfl (Sub.C1 rfl (Sub.C1 rfl Sub.nil)))))) ⟨⟨(by intro h; cases h), fun h => absurd (h.2.2.2) g3⟩, hS⟩)
      refine RL.eqv (v' := .bool true) (congrArg _ (decide_eq_true (by omega))) ?_
      refine RL.A1 T_ok rfl ?_
      exact RL.N1 (QN.cutEnd true (Sub.C1 rfl (Sub.C1 rfl (Sub.C1 rfl (Sub.C1 rfl (Sub.C1 rfl (Sub.C1 rfl Sub.nil)))))) ⟨⟨fun _ => ⟨g0, g1, g2, g3⟩, fun _ => rfl⟩, hS⟩)
    clear hS
    rintro q m ⟨hA, hS⟩
    refine WP.cut (X := Bool) (fun q => [(1, .pointer (some ⟨b1, 0, none⟩)), (4, .slice A1 (vclean vec).length c1), (5, .slice A2 (tnorm turns).length c2), (6, .bool (decide (0 < vec.length + turns.length))), (7, .slice (some ⟨b2, 0, none⟩) 1 1), (8, .bool q)]) (fun q m => (q = true ↔ (n = 0 ∧ b.length = 0 ∧ (vclean vec).length ≤ 16384 ∧ (tnorm turns).length ≤ 16384) ∧ c = 0 ∧ room = []) ∧ Tr m0 PP X m [ownA [b2] 5 1 (.slice (some ⟨b2, 0, none⟩) 1 1) ([UInt8.ofNat 2]).length (u8s ([UInt8.ofNat 2])), blkA b1 27 [.int .i64 2, .int .u64 c, .int .u64 n, .string (str room), .slice vA vec.length vc, .slice tA turns.length tc, .slice bA b.length bc], roA 2 (.slice A1 (vclean vec).length c1) ((vclean vec).flatMap cC), roA 4 (.slice A2 (tnorm turns).length c2) ((tnorm turns).flatMap tC), roA 1 (.slice bA b.length bc) (u8s b)]) ?_ ?_
    · (with_reducible repeat (first | refine WP.S1 ?_ | refine WP.B1 ?_ | refine WP.R1 ?_))
      refine RL.pure T_ok 1 rfl ?_
      refine RL.loadM T_ok hS rfl rfl rfl (by with_reducible repeat (first | exact zS .. | apply zO)) (by rfl) (by rfl) ?_
      refine RL.A1 T_ok rfl ?_
      refine RL.N1 ?_; (with_reducible repeat (first | refine QN.B1 ?_ | refine QN.N1 ?_))
      refine WP.condF rfl ?_
      (with_reducible repeat (first | refine WP.S1 ?_ | refine WP.B1 ?_ | refine WP.R1 ?_))
      cases q
      · refine RL.A1 T_ok rfl ?_
        exact RL.N1 (QN.cutEnd false (Sub.C1 rfl (Sub.C1 rfl (Sub.C1 rfl (Sub.C1 rfl (Sub.C1 rfl (Sub.C1 rfl Sub.nil)))))) ⟨⟨(by intro h; cases h), fun h => absurd (hA.2 h.1) (by decide)⟩, hS⟩)
      have hA := hA.1 rfl
      refine RL.pure T_ok 3 rfl ?_
      refine RL.loadM T_ok hS rfl rfl rfl (by with_reducible repeat (first | exact zS .. | apply zO)) (by rfl) (by rfl) ?_
      refine RL.pure T_ok 1 rfl ?_
      by_cases g0 : c = 0
      rotate_left
      · refine RL.eqv (v' := .bool false) (congrArg _ (beq_false_of_ne (by omega))) ?_
        refine RL.A1 T_ok rfl ?_
        exact RL.N1 (QN.cutEnd false (Sub.C1 rfl (Sub.C1 rfl (Sub.C1 rfl (Sub.C1 rfl (Sub.C1 rfl (Sub.C1 rfl Sub.nil)))))) ⟨⟨(by intro h; cases h), fun h => absurd (h.2.1) g0⟩, hS⟩)
      refine RL.eqv (v' := .bool true) (congrArg _ (beq_iff_eq.2 (by omega))) ?_
      refine RL.pure T_ok 3 rfl ?_
      refine RL.loadM T_ok hS rfl rfl rfl (by with_reducible repeat (first | exact zS .. | apply zO)) (by rfl) (by rfl) ?_
      refine RL.pure T_ok 1 rfl ?_
      by_cases g1 : room = []
      rotate_left
      · refine RL.eqv (v' := .bool false) (congrArg _ ((str_eq _ []).trans (decide_eq_false g1))) ?_
        refine RL.A1 T_ok rfl ?_
        exact RL.N1 (QN.cutEnd false (Sub.C1 rfl (Sub.C1 rfl (Sub.C1 rfl (Sub.C1 rfl (Sub.C1 rfl (Sub.C1 rfl Sub.nil)))))) ⟨⟨(by intro h; cases h), fun h => absurd (h.2.2) g1⟩, hS⟩)
      refine RL.eqv (v' := .bool true) (congrArg _ ((str_eq _ []).trans (decide_eq_true g1))) ?_
      refine RL.A1 T_ok rfl ?_
      exact RL.N1 (QN.cutEnd true (Sub.C1 rfl (Sub.C1 rfl (Sub.C1 rfl (Sub.C1 rfl (Sub.C1 rfl (Sub.C1 rfl Sub.nil)))))) ⟨⟨fun _ => ⟨hA, ⟨g0, g1⟩⟩, fun _ => rfl⟩, hS⟩)
    clear hS hA
    rintro q m ⟨hB, hS⟩
    (with_reducible repeat (first | refine WP.S1 ?_ | refine WP.B1 ?_ | refine WP.R1 ?_))
    repeat (first | refine RL.autoP T_ok rfl rfl ?_ | refine RL.loadM T_ok hS rfl rfl rfl (by with_reducible repeat (first | exact zS .. | apply zO)) (by rfl) (by rfl) ?_ | refine RL.lsM T_ok hS rfl rfl rfl (by with_reducible repeat (first | exact zS .. | apply zO)) (by rfl) (by rfl) (by rfl) ?_ | (refine RL.N1 ?_; (with_reducible repeat (first | refine QN.B1 ?_ | refine QN.N1 ?_))) | with_reducible refine WP.S1 ?_ | with_reducible refine WP.B1 ?_ | with_reducible refine WP.R1 ?_ | (refine WP.skip ?_; (with_reducible repeat (first | refine QN.B1 ?_ | refine QN.N1 ?_))) | refine WP.condT rfl ?_ | refine WP.condF rfl ?_)
    obtain ⟨pre, hp⟩ : ∃ pre, [UInt8.ofNat 2] = pre := ⟨_, rfl⟩
    have hpl : pre.length ≤ 6000 := by rw [← hp]; simp only [List.length_cons, List.length_nil]; omega
    rw [hp] at hS
    refine RL.callM (fi := []) (ca := []) hS (refvwrite_s [b2] _ (pre) _ (vclean vec) (by omega) (by omega)) rfl rfl rfl rfl (by repeat (first | with_reducible exact Sels.nil | apply Sels.ro (by with_reducible repeat (first | exact zS .. | apply zO)) (by rfl) | apply Sels.own (by with_reducible repeat (first | exact Sel.head | apply Sel.tail)))) ?_
    (try clear hS); rintro w3 m _ ⟨S3, rfl⟩ hS; (try simp only [zC, zN] at hS); refine ⟨_, rfl, ?_⟩
    repeat (first | refine RL.autoP T_ok rfl rfl ?_ | refine RL.loadM T_ok hS rfl rfl rfl (by with_reducible repeat (first | exact zS .. | apply zO)) (by rfl) (by rfl) ?_ | refine RL.lsM T_ok hS rfl rfl rfl (by with_reducible repeat (first | exact zS .. | apply zO)) (by rfl) (by rfl) (by rfl) ?_ | (refine RL.N1 ?_; (with_reducible repeat (first | refine QN.B1 ?_ | refine QN.N1 ?_))) | with_reducible refine WP.S1 ?_ | with_reducible refine WP.B1 ?_ | with_reducible refine WP.R1 ?_ | (refine WP.skip ?_; (with_reducible repeat (first | refine QN.B1 ?_ | refine QN.N1 ?_))) | refine WP.condT rfl ?_ | refine WP.condF rfl ?_)
    have q3 := encV_len (vclean_canon (vclean vec)) (by rw [vclean_clean]; omega)
    refine RL.callM (fi := []) (ca := []) hS (refturnsW_s S3 w3 (pre ++ encV (vclean (vclean vec))) _ (tnorm turns) htc (by omega) (by simp only [List.length_append]; omega)) rfl rfl rfl rfl (by repeat (first | with_reducible exact Sels.nil | apply Sels.ro (by with_reducible repeat (first | exact zS .. | apply zO)) (by rfl) | apply Sels.own (by with_reducible repeat (first | exact Sel.head | apply Sel.tail)))) ?_
    (try clear hS); rintro w4 m _ ⟨S4, rfl⟩ hS; (try simp only [zC, zN] at hS); refine ⟨_, rfl, ?_⟩
    refine RL.A1 T_ok rfl ?_
    refine RL.N1 ?_
    (with_reducible repeat (first | refine QN.B1 ?_))
    refine QN.cutEnd (q, w4, S4, _) (Sub.C1 rfl (Sub.C1 rfl Sub.nil)) ⟨hB.trans ok2_iff.symm, fun _ => ?_, Tr.drop (H := [_]) hS⟩
    show _ = Msg.enc _
    rw [vclean_clean, ← hp]
    simp [Msg.enc]
  by_cases k3 : K = 3
  · subst k3
    obtain rfl := byte_is hkw 3 (by omega) rfl
    (with_reducible repeat (first | refine WP.S1 ?_ | refine WP.B1 ?_ | refine WP.R1 ?_))
    refine RL.pure T_ok 1 rfl ?_
    refine RL.loadM T_ok hS rfl rfl rfl (by with_reducible repeat (first | exact zS .. | apply zO)) (by rfl) (by rfl) ?_
    refine RL.N1 ?_; (with_reducible repeat (first | refine QN.B1 ?_ | refine QN.N1 ?_))
    (with_reducible repeat (first | refine WP.S1 ?_ | refine WP.B1 ?_ | refine WP.R1 ?_))
    refine RL.A1 T_ok rfl ?_
    refine RL.N1 ?_; (with_reducible repeat (first | refine QN.B1 ?_ | refine QN.N1 ?_))
    refine WP.condF rfl ?_
    (with_reducible repeat (first | refine WP.S1 ?_ | refine WP.B1 ?_ | refine WP.R1 ?_))
    refine RL.A1 T_ok rfl ?_
    refine RL.N1 ?_; (with_reducible repeat (first | refine QN.B1 ?_ | refine QN.N1 ?_))
    refine WP.condF rfl ?_
    (with_reducible repeat (first | refine WP.S1 ?_ | refine WP.B1 ?_ | refine WP.R1 ?_))
    refine RL.A1 T_ok rfl ?_
    refine RL.N1 ?_; (with_reducible repeat (first | refine QN.B1 ?_ | refine QN.N1 ?_))
    refine WP.condT rfl ?_
    refine WP.skip ?_; (with_reducible repeat (first | refine QN.B1 ?_ | refine QN.N1 ?_))
    refine WP.condT rfl ?_
    refine WP.cut (X := Bool) (fun q => [(1, .pointer (some ⟨b1, 0, none⟩)), (4, .slice A1 (vclean vec).length c1), (5, .slice A2 (tnorm turns).length c2), (6, .bool (decide (0 < vec.length + turns.length))), (7, .slice (some ⟨b2, 0, none⟩) 1 1), (8, .bool q)]) (fun q m => (q = true ↔ vec.length + turns.length = 0 ∧ c = 0 ∧ room = [] ∧ b.length ≤ 1048576 ∧ n ≤ 9007199254740991) ∧ Tr m0 PP X m [ownA [b2] 5 1 (.slice (some ⟨b2, 0, none⟩) 1 1) ([UInt8.ofNat 3]).length (u8s ([UInt8.ofNat 3])), blkA b1 27 [.int .i64 3, .int .u64 c, .int .u64 n, .string (str room), .slice vA vec.length vc, .slice tA turns.length tc, .slice bA b.length bc], roA 2 (.slice A1 (vclean vec).length c1) ((vclean vec).flatMap cC), roA 4 (.slice A2 (tnorm turns).length c2) ((tnorm turns).flatMap tC), roA 1 (.slice bA b.length bc) (u8s b)]) ?_ ?_
    · skip
      (with_reducible repeat (first | refine WP.S1 ?_ | refine WP.B1 ?_ | refine WP.R1 ?_))
      refine RL.pure T_ok 2 rfl ?_
      by_cases g0 : vec.length + turns.length = 0
      rotate_left
      · refine RL.eqv (v' := .bool false) (congrArg _ (by rw [decide_eq_true (by omega)]; rfl)) ?_
        refine RL.A1 T_ok rfl ?_
        exact RL.N1 (QN.cutEnd false (Sub.C1 rfl (Sub.C1 rfl (Sub.C1 rfl (Sub.C1 rfl (Sub.C1 rfl (Sub.C1 rfl Sub.nil)))))) ⟨⟨(by intro h; cases h), fun h => absurd (h.1) g0⟩, hS⟩)
      refine RL.eqv (v' := .bool true) (congrArg _ (by rw [decide_eq_false (by omega)]; rfl)) ?_
      refine RL.pure T_ok 2 rfl ?_
      refine RL.loadM T_ok hS rfl rfl rfl (by with_reducible repeat (first | exact zS .. | apply zO)) (by rfl) (by rfl) ?_
      refine RL.pure T_ok 1 rfl ?_
      by_cases g1 : c = 0
      rotate_left
      · refine RL.eqv (v' := .bool false) (congrArg _ (beq_false_of_ne (by omega))) ?_
        refine RL.A1 T_ok rfl ?_
        exact RL.N1 (QN.cutEnd false (Sub.C1 rfl (Sub.C1 rfl (Sub.C1 rfl (Sub.C1 rfl (Sub.C1 rfl (Sub.C1 rfl Sub.nil)))))) ⟨⟨(by intro h; cases h), fun h => absurd (h.2.1) g1⟩, hS⟩)
      refine RL.eqv (v' := .bool true) (congrArg _ (beq_iff_eq.2 (by omega))) ?_
      refine RL.pure T_ok 3 rfl ?_
      refine RL.loadM T_ok hS rfl rfl rfl (by with_reducible repeat (first | exact zS .. | apply zO)) (by rfl) (by rfl) ?_
      refine RL.pure T_ok 1 rfl ?_
      by_cases g2 : room = []
      rotate_left
      · refine RL.eqv (v' := .bool false) (congrArg _ ((str_eq _ []).trans (decide_eq_false g2))) ?_
        refine RL.A1 T_ok rfl ?_
        exact RL.N1 (QN.cutEnd false (Sub.C1 rfl (Sub.C1 rfl (Sub.C1 rfl (Sub.C1 rfl (Sub.C1 rfl (Sub.C1 rfl Sub.nil)))))) ⟨⟨(by intro h; cases h), fun h => absurd (h.2.2.1) g2⟩, hS⟩)
      refine RL.eqv (v' := .bool true) (congrArg _ ((str_eq _ []).trans (decide_eq_true g2))) ?_
      refine RL.pure T_ok 3 rfl ?_
      refine RL.loadM T_ok hS rfl rfl rfl (by with_reducible repeat (first | exact zS .. | apply zO)) (by rfl) (by rfl) ?_
      refine RL.pure T_ok 2 rfl ?_
      by_cases g3 : b.length ≤ 1048576
      rotate_left
      · refine RL.eqv (v' := .bool false) (congrArg _ (decide_eq_false (by omega))) ?_
        refine RL.A1 T_ok rfl ?_
        exact RL.N1 (QN.cutEnd false (Sub.C1 rfl (Sub.C1 rfl (Sub.C1 rfl (Sub.C1 rfl (Sub.C1 rfl (Sub.C1 rfl Sub.nil)))))) ⟨⟨(by intro h; cases h), fun h => absurd (h.2.2.2.1) g3⟩, hS⟩)
      refine RL.eqv (v' := .bool true) (congrArg _ (decide_eq_true (by omega))) ?_
      refine RL.pure T_ok 3 rfl ?_
      refine RL.loadM T_ok hS rfl rfl rfl (by with_reducible repeat (first | exact zS .. | apply zO)) (by rfl) (by rfl) ?_
      refine RL.pure T_ok 1 rfl ?_
      by_cases g4 : n ≤ 9007199254740991
      rotate_left
      · refine RL.eqv (v' := .bool false) (congrArg _ (decide_eq_false (by omega))) ?_
        refine RL.A1 T_ok rfl ?_
        exact RL.N1 (QN.cutEnd false (Sub.C1 rfl (Sub.C1 rfl (Sub.C1 rfl (Sub.C1 rfl (Sub.C1 rfl (Sub.C1 rfl Sub.nil)))))) ⟨⟨(by intro h; cases h), fun h => absurd (h.2.2.2.2) g4⟩, hS⟩)
      refine RL.eqv (v' := .bool true) (congrArg _ (decide_eq_true (by omega))) ?_
      refine RL.A1 T_ok rfl ?_
      exact RL.N1 (QN.cutEnd true (Sub.C1 rfl (Sub.C1 rfl (Sub.C1 rfl (Sub.C1 rfl (Sub.C1 rfl (Sub.C1 rfl Sub.nil)))))) ⟨⟨fun _ => ⟨g0, g1, g2, g3, g4⟩, fun _ => rfl⟩, hS⟩)
    clear hS
    rintro q m ⟨hA, hS⟩
    have q1 := encU_len10 (n := n) (by omega)
    (with_reducible repeat (first | refine WP.S1 ?_ | refine WP.B1 ?_ | refine WP.R1 ?_))
    refine RL.pure T_ok 1 rfl ?_
    refine RL.loadM T_ok hS rfl rfl rfl (by with_reducible repeat (first | exact zS .. | apply zO)) (by rfl) (by rfl) ?_
    refine RL.A1 T_ok rfl ?_
    refine RL.N1 ?_; (with_reducible repeat (first | refine QN.B1 ?_ | refine QN.N1 ?_))
    refine WP.condT rfl ?_
    (with_reducible repeat (first | refine WP.S1 ?_ | refine WP.B1 ?_ | refine WP.R1 ?_))
    refine RL.pure T_ok 2 rfl ?_
    refine RL.loadM T_ok hS rfl rfl rfl (by with_reducible repeat (first | exact zS .. | apply zO)) (by rfl) (by rfl) ?_
    refine RL.callM (fi := []) (ca := []) hS (refuint_s n (by omega) [b2] _ [UInt8.ofNat 3] (by simp)) rfl rfl rfl rfl (by repeat (first | with_reducible exact Sels.nil | apply Sels.ro (by with_reducible repeat (first | exact zS .. | apply zO)) (by rfl) | apply Sels.own (by with_reducible repeat (first | exact Sel.head | apply Sel.tail)))) ?_
    (try clear hS); rintro w1 m _ ⟨S5, rfl⟩ hS; (try simp only [zC, zN] at hS); refine ⟨_, rfl, ?_⟩
    refine RL.A1 T_ok rfl ?_
    refine RL.N1 ?_; (with_reducible repeat (first | refine QN.B1 ?_ | refine QN.N1 ?_))
    (with_reducible repeat (first | refine WP.S1 ?_ | refine WP.B1 ?_ | refine WP.R1 ?_))
    refine RL.pure T_ok 2 rfl ?_
    refine RL.loadM T_ok hS rfl rfl rfl (by with_reducible repeat (first | exact zS .. | apply zO)) (by rfl) (by rfl) ?_
    refine RL.bytesString T_ok (hS.mem (A := roA 1 (.slice bA b.length bc) (u8s b)) (by with_reducible repeat (first | exact zS .. | apply zO))).1 rfl rfl rfl rfl rfl rfl ?_
    refine RL.callM (fi := []) (ca := []) hS (reftext_s b (by omega) S5 w1 (UInt8.ofNat 3 :: encU n) (by simp only [List.length_cons]; omega)) rfl rfl rfl rfl (by repeat (first | with_reducible exact Sels.nil | apply Sels.ro (by with_reducible repeat (first | exact zS .. | apply zO)) (by rfl) | apply Sels.own (by with_reducible repeat (first | exact Sel.head | apply Sel.tail)))) ?_
    (try clear hS); rintro w2 m _ ⟨S6, rfl⟩ hS; (try simp only [zC, zN] at hS); refine ⟨_, rfl, ?_⟩
    refine RL.A1 T_ok rfl ?_
    refine RL.N1 ?_
    (with_reducible repeat (first | refine QN.B1 ?_))
    refine QN.cutEnd (q, w2, S6, _) (Sub.C1 rfl (Sub.C1 rfl Sub.nil)) ⟨hA.trans ok3_iff.symm, fun hq => ?_, Tr.drop (H := [_]) hS⟩
    show _ = Msg.enc _
    simp [Msg.enc]
  by_cases k5 : K = 5
  · subst k5
    obtain rfl := byte_is hkw 5 (by omega) rfl
    (with_reducible repeat (first | refine WP.S1 ?_ | refine WP.B1 ?_ | refine WP.R1 ?_))
    refine RL.pure T_ok 1 rfl ?_
    refine RL.loadM T_ok hS rfl rfl rfl (by with_reducible repeat (first | exact zS .. | apply zO)) (by rfl) (by rfl) ?_
    refine RL.N1 ?_; (with_reducible repeat (first | refine QN.B1 ?_ | refine QN.N1 ?_))
    (with_reducible repeat (first | refine WP.S1 ?_ | refine WP.B1 ?_ | refine WP.R1 ?_))
    refine RL.A1 T_ok rfl ?_
    refine RL.N1 ?_; (with_reducible repeat (first | refine QN.B1 ?_ | refine QN.N1 ?_))
    refine WP.condF rfl ?_
    (with_reducible repeat (first | refine WP.S1 ?_ | refine WP.B1 ?_ | refine WP.R1 ?_))
    refine RL.A1 T_ok rfl ?_
    refine RL.N1 ?_; (with_reducible repeat (first | refine QN.B1 ?_ | refine QN.N1 ?_))
    refine WP.condF rfl ?_
    (with_reducible repeat (first | refine WP.S1 ?_ | refine WP.B1 ?_ | refine WP.R1 ?_))
    refine RL.A1 T_ok rfl ?_
    refine RL.N1 ?_; (with_reducible repeat (first | refine QN.B1 ?_ | refine QN.N1 ?_))
    refine WP.condF rfl ?_
    (with_reducible repeat (first | refine WP.S1 ?_ | refine WP.B1 ?_ | refine WP.R1 ?_))
    refine RL.A1 T_ok rfl ?_
    refine RL.N1 ?_; (with_reducible repeat (first | refine QN.B1 ?_ | refine QN.N1 ?_))
    refine WP.condT rfl ?_
    refine WP.cut (X := Bool) (fun q => [(1, .pointer (some ⟨b1, 0, none⟩)), (4, .slice A1 (vclean vec).length c1), (5, .slice A2 (tnorm turns).length c2), (6, .bool (decide (0 < vec.length + turns.length))), (7, .slice (some ⟨b2, 0, none⟩) 1 1), (8, .bool q)]) (fun q m => (q = true ↔ vec.length + turns.length = 0 ∧ c = 0 ∧ room = [] ∧ b.length ≤ 1048576 ∧ n ≤ 9007199254740991) ∧ Tr m0 PP X m [ownA [b2] 5 1 (.slice (some ⟨b2, 0, none⟩) 1 1) ([UInt8.ofNat 5]).length (u8s ([UInt8.ofNat 5])), blkA b1 27 [.int .i64 5, .int .u64 c, .int .u64 n, .string (str room), .slice vA vec.length vc, .slice tA turns.length tc, .slice bA b.length bc], roA 2 (.slice A1 (vclean vec).length c1) ((vclean vec).flatMap cC), roA 4 (.slice A2 (tnorm turns).length c2) ((tnorm turns).flatMap tC), roA 1 (.slice bA b.length bc) (u8s b)]) ?_ ?_
    · skip
      (with_reducible repeat (first | refine WP.S1 ?_ | refine WP.B1 ?_ | refine WP.R1 ?_))
      refine RL.pure T_ok 2 rfl ?_
      by_cases g0 : vec.length + turns.length = 0
      rotate_left
      · refine RL.eqv (v' := .bool false) (congrArg _ (by rw [decide_eq_true (by omega)]; rfl)) ?_
        refine RL.A1 T_ok rfl ?_
        exact RL.N1 (QN.cutEnd false (Sub.C1 rfl (Sub.C1 rfl (Sub.C1 rfl (Sub.C1 rfl (Sub.C1 rfl (Sub.C1 rfl Sub.nil)))))) ⟨⟨(by intro h; cases h), fun h => absurd (h.1) g0⟩, hS⟩)
      refine RL.eqv (v' := .bool true) (congrArg _ (by rw [decide_eq_false (by omega)]; rfl)) ?_
      refine RL.pure T_ok 2 rfl ?_
      refine RL.loadM T_ok hS rfl rfl rfl (by with_reducible repeat (first | exact zS .. | apply zO)) (by rfl) (by rfl) ?_
      refine RL.pure T_ok 1 rfl ?_
      by_cases g1 : c = 0
      rotate_left
      · refine RL.eqv (v' := .bool false) (congrArg _ (beq_false_of_ne (by omega))) ?_
        refine RL.A1 T_ok rfl ?_
        exact RL.N1 (QN.cutEnd false (Sub.C1 rfl (Sub.C1 rfl (Sub.C1 rfl (Sub.C1 rfl (Sub.C1 rfl (Sub.C1 rfl Sub.nil)))))) ⟨⟨(by intro h; cases h), fun h => absurd (h.2.1) g1⟩, hS⟩)
      refine RL.eqv (v' := .bool true) (congrArg _ (beq_iff_eq.2 (by omega))) ?_
      refine RL.pure T_ok 3 rfl ?_
      refine RL.loadM T_ok hS rfl rfl rfl (by with_reducible repeat (first | exact zS .. | apply zO)) (by rfl) (by rfl) ?_
      refine RL.pure T_ok 1 rfl ?_
      by_cases g2 : room = []
      rotate_left
      · refine RL.eqv (v' := .bool false) (congrArg _ ((str_eq _ []).trans (decide_eq_false g2))) ?_
        refine RL.A1 T_ok rfl ?_
        exact RL.N1 (QN.cutEnd false (Sub.C1 rfl (Sub.C1 rfl (Sub.C1 rfl (Sub.C1 rfl (Sub.C1 rfl (Sub.C1 rfl Sub.nil)))))) ⟨⟨(by intro h; cases h), fun h => absurd (h.2.2.1) g2⟩, hS⟩)
      refine RL.eqv (v' := .bool true) (congrArg _ ((str_eq _ []).trans (decide_eq_true g2))) ?_
      refine RL.pure T_ok 3 rfl ?_
      refine RL.loadM T_ok hS rfl rfl rfl (by with_reducible repeat (first | exact zS .. | apply zO)) (by rfl) (by rfl) ?_
      refine RL.pure T_ok 2 rfl ?_
      by_cases g3 : b.length ≤ 1048576
      rotate_left
      · refine RL.eqv (v' := .bool false) (congrArg _ (decide_eq_false (by omega))) ?_
        refine RL.A1 T_ok rfl ?_
        exact RL.N1 (QN.cutEnd false (Sub.C1 rfl (Sub.C1 rfl (Sub.C1 rfl (Sub.C1 rfl (Sub.C1 rfl (Sub.C1 rfl Sub.nil)))))) ⟨⟨(by intro h; cases h), fun h => absurd (h.2.2.2.1) g3⟩, hS⟩)
      refine RL.eqv (v' := .bool true) (congrArg _ (decide_eq_true (by omega))) ?_
      refine RL.pure T_ok 3 rfl ?_
      refine RL.loadM T_ok hS rfl rfl rfl (by with_reducible repeat (first | exact zS .. | apply zO)) (by rfl) (by rfl) ?_
      refine RL.pure T_ok 1 rfl ?_
      by_cases g4 : n ≤ 9007199254740991
      rotate_left
      · refine RL.eqv (v' := .bool false) (congrArg _ (decide_eq_false (by omega))) ?_
        refine RL.A1 T_ok rfl ?_
        exact RL.N1 (QN.cutEnd false (Sub.C1 rfl (Sub.C1 rfl (Sub.C1 rfl (Sub.C1 rfl (Sub.C1 rfl (Sub.C1 rfl Sub.nil)))))) ⟨⟨(by intro h; cases h), fun h => absurd (h.2.2.2.2) g4⟩, hS⟩)
      refine RL.eqv (v' := .bool true) (congrArg _ (decide_eq_true (by omega))) ?_
      refine RL.A1 T_ok rfl ?_
      exact RL.N1 (QN.cutEnd true (Sub.C1 rfl (Sub.C1 rfl (Sub.C1 rfl (Sub.C1 rfl (Sub.C1 rfl (Sub.C1 rfl Sub.nil)))))) ⟨⟨fun _ => ⟨g0, g1, g2, g3, g4⟩, fun _ => rfl⟩, hS⟩)
    clear hS
    rintro q m ⟨hA, hS⟩
    have q1 := encU_len10 (n := n) (by omega)
    refine WP.cut (X := Bool) (fun q => [(1, .pointer (some ⟨b1, 0, none⟩)), (4, .slice A1 (vclean vec).length c1), (5, .slice A2 (tnorm turns).length c2), (6, .bool (decide (0 < vec.length + turns.length))), (7, .slice (some ⟨b2, 0, none⟩) 1 1), (8, .bool q)]) (fun q m => (q = true ↔ (vec.length + turns.length = 0 ∧ c = 0 ∧ room = [] ∧ b.length ≤ 1048576 ∧ n ≤ 9007199254740991) ∧ n = 0) ∧ Tr m0 PP X m [ownA [b2] 5 1 (.slice (some ⟨b2, 0, none⟩) 1 1) ([UInt8.ofNat 5]).length (u8s ([UInt8.ofNat 5])), blkA b1 27 [.int .i64 5, .int .u64 c, .int .u64 n, .string (str room), .slice vA vec.length vc, .slice tA turns.length tc, .slice bA b.length bc], roA 2 (.slice A1 (vclean vec).length c1) ((vclean vec).flatMap cC), roA 4 (.slice A2 (tnorm turns).length c2) ((tnorm turns).flatMap tC), roA 1 (.slice bA b.length bc) (u8s b)]) ?_ ?_
    · (with_reducible repeat (first | refine WP.S1 ?_ | refine WP.B1 ?_ | refine WP.R1 ?_))
      refine RL.pure T_ok 1 rfl ?_
      refine RL.loadM T_ok hS rfl rfl rfl (by with_reducible repeat (first | exact zS .. | apply zO)) (by rfl) (by rfl) ?_
      refine RL.A1 T_ok rfl ?_
      refine RL.N1 ?_; (with_reducible repeat (first | refine QN.B1 ?_ | refine QN.N1 ?_))
      refine WP.condF rfl ?_
      (with_reducible repeat (first | refine WP.S1 ?_ | refine WP.B1 ?_ | refine WP.R1 ?_))
      cases q
      · refine RL.A1 T_ok rfl ?_
        exact RL.N1 (QN.cutEnd false (Sub.C1 rfl (Sub.C1 rfl (Sub.C1 rfl (Sub.C1 rfl (Sub.C1 rfl (Sub.C1 rfl Sub.nil)))))) ⟨⟨(by intro h; cases h), fun h => absurd (hA.2 h.1) (by decide)⟩, hS⟩)
      have hA := hA.1 rfl
      refine RL.pure T_ok 3 rfl ?_
      refine RL.loadM T_ok hS rfl rfl rfl (by with_reducible repeat (first | exact zS .. | apply zO)) (by rfl) (by rfl) ?_
      refine RL.pure T_ok 1 rfl ?_
      by_cases g0 : n = 0
      rotate_left
      · refine RL.eqv (v' := .bool false) (congrArg _ (beq_false_of_ne (by omega))) ?_
        refine RL.A1 T_ok rfl ?_
        exact RL.N1 (QN.cutEnd false (Sub.C1 rfl (Sub.C1 rfl (Sub.C1 rfl (Sub.C1 rfl (Sub.C1 rfl (Sub.C1 rfl Sub.nil)))))) ⟨⟨(by intro h; cases h), fun h => absurd (h.2) g0⟩, hS⟩)
      refine RL.eqv (v' := .bool true) (congrArg _ (beq_iff_eq.2 (by omega))) ?_
      refine RL.A1 T_ok rfl ?_
      exact RL.N1 (QN.cutEnd true (Sub.C1 rfl (Sub.C1 rfl (Sub.C1 rfl (Sub.C1 rfl (Sub.C1 rfl (Sub.C1 rfl Sub.nil)))))) ⟨⟨fun _ => ⟨hA, g0⟩, fun _ => rfl⟩, hS⟩)
    clear hS hA
    rintro q m ⟨hA, hS⟩
    (with_reducible repeat (first | refine WP.S1 ?_ | refine WP.B1 ?_ | refine WP.R1 ?_))
    refine RL.pure T_ok 2 rfl ?_
    refine RL.loadM T_ok hS rfl rfl rfl (by with_reducible repeat (first | exact zS .. | apply zO)) (by rfl) (by rfl) ?_
    refine RL.bytesString T_ok (hS.mem (A := roA 1 (.slice bA b.length bc) (u8s b)) (by with_reducible repeat (first | exact zS .. | apply zO))).1 rfl rfl rfl rfl rfl rfl ?_
    refine RL.callM (fi := []) (ca := []) hS (reftext_s b (by omega) [b2] _ [UInt8.ofNat 5] (by simp only [List.length_cons, List.length_nil]; omega)) rfl rfl rfl rfl (by repeat (first | with_reducible exact Sels.nil | apply Sels.ro (by with_reducible repeat (first | exact zS .. | apply zO)) (by rfl) | apply Sels.own (by with_reducible repeat (first | exact Sel.head | apply Sel.tail)))) ?_
    (try clear hS); rintro w2 m _ ⟨S6, rfl⟩ hS; (try simp only [zC, zN] at hS); refine ⟨_, rfl, ?_⟩
    refine RL.A1 T_ok rfl ?_
    refine RL.N1 ?_
    (with_reducible repeat (first | refine QN.B1 ?_))
    refine QN.cutEnd (q, w2, S6, _) (Sub.C1 rfl (Sub.C1 rfl Sub.nil)) ⟨hA.trans ok5_iff.symm, fun hq => ?_, Tr.drop (H := [_]) hS⟩
    show _ = Msg.enc _
    simp [Msg.enc]
  by_cases k4 : K = 4
  · subst k4
    obtain rfl := byte_is hkw 4 (by omega) rfl
    (with_reducible repeat (first | refine WP.S1 ?_ | refine WP.B1 ?_ | refine WP.R1 ?_))
    refine RL.pure T_ok 1 rfl ?_
    refine RL.loadM T_ok hS rfl rfl rfl (by with_reducible repeat (first | exact zS .. | apply zO)) (by rfl) (by rfl) ?_
    refine RL.N1 ?_; (with_reducible repeat (first | refine QN.B1 ?_ | refine QN.N1 ?_))
    (with_reducible repeat (first | refine WP.S1 ?_ | refine WP.B1 ?_ | refine WP.R1 ?_))
    refine RL.A1 T_ok rfl ?_
    refine RL.N1 ?_; (with_reducible repeat (first | refine QN.B1 ?_ | refine QN.N1 ?_))
    refine WP.condF rfl ?_
    (with_reducible repeat (first | refine WP.S1 ?_ | refine WP.B1 ?_ | refine WP.R1 ?_))
    refine RL.A1 T_ok rfl ?_
    refine RL.N1 ?_; (with_reducible repeat (first | refine QN.B1 ?_ | refine QN.N1 ?_))
    refine WP.condF rfl ?_
    (with_reducible repeat (first | refine WP.S1 ?_ | refine WP.B1 ?_ | refine WP.R1 ?_))
    refine RL.A1 T_ok rfl ?_
    refine RL.N1 ?_; (with_reducible repeat (first | refine QN.B1 ?_ | refine QN.N1 ?_))
    refine WP.condF rfl ?_
    (with_reducible repeat (first | refine WP.S1 ?_ | refine WP.B1 ?_ | refine WP.R1 ?_))
    refine RL.A1 T_ok rfl ?_
    refine RL.N1 ?_; (with_reducible repeat (first | refine QN.B1 ?_ | refine QN.N1 ?_))
    refine WP.condF rfl ?_
    (with_reducible repeat (first | refine WP.S1 ?_ | refine WP.B1 ?_ | refine WP.R1 ?_))
    refine RL.A1 T_ok rfl ?_
    refine RL.N1 ?_; (with_reducible repeat (first | refine QN.B1 ?_ | refine QN.N1 ?_))
    refine WP.condT rfl ?_
    refine WP.skip ?_; (with_reducible repeat (first | refine QN.B1 ?_ | refine QN.N1 ?_))
    refine WP.condT rfl ?_
    refine WP.cut (X := Bool) (fun q => [(1, .pointer (some ⟨b1, 0, none⟩)), (4, .slice A1 (vclean vec).length c1), (5, .slice A2 (tnorm turns).length c2), (6, .bool (decide (0 < vec.length + turns.length))), (7, .slice (some ⟨b2, 0, none⟩) 1 1), (8, .bool q)]) (fun q m => (q = true ↔ vec.length + turns.length = 0 ∧ c = 0 ∧ room = [] ∧ b.length = 0 ∧ 1 ≤ n ∧ n ≤ 9007199254740991) ∧ Tr m0 PP X m [ownA [b2] 5 1 (.slice (some ⟨b2, 0, none⟩) 1 1) ([UInt8.ofNat 4]).length (u8s ([UInt8.ofNat 4])), blkA b1 27 [.int .i64 4, .int .u64 c, .int .u64 n, .string (str room), .slice vA vec.length vc, .slice tA turns.length tc, .slice bA b.length bc], roA 2 (.slice A1 (vclean vec).length c1) ((vclean vec).flatMap cC), roA 4 (.slice A2 (tnorm turns).length c2) ((tnorm turns).flatMap tC), roA 1 (.slice bA b.length bc) (u8s b)]) ?_ ?_
    · skip
      (with_reducible repeat (first | refine WP.S1 ?_ | refine WP.B1 ?_ | refine WP.R1 ?_))
      refine RL.pure T_ok 2 rfl ?_
      by_cases g0 : vec.length + turns.length = 0
      rotate_left
      · refine RL.eqv (v' := .bool false) (congrArg _ (by rw [decide_eq_true (by omega)]; rfl)) ?_
        refine RL.A1 T_ok rfl ?_
        exact RL.N1 (QN.cutEnd false (Sub.C1 rfl (Sub.C1 rfl (Sub.C1 rfl (Sub.C1 rfl (Sub.C1 rfl (Sub.C1 rfl Sub.nil)))))) ⟨⟨(by intro h; cases h), fun h => absurd (h.1) g0⟩, hS⟩)
      refine RL.eqv (v' := .bool true) (congrArg _ (by rw [decide_eq_false (by omega)]; rfl)) ?_
      refine RL.pure T_ok 2 rfl ?_
      refine RL.loadM T_ok hS rfl rfl rfl (by with_reducible repeat (first | exact zS .. | apply zO)) (by rfl) (by rfl) ?_
      refine RL.pure T_ok 1 rfl ?_
      by_cases g1 : c = 0
      rotate_left
      · refine RL.eqv (v' := .bool false) (congrArg _ (beq_false_of_ne (by omega))) ?_
        refine RL.A1 T_ok rfl ?_
        exact RL.N1 (QN.cutEnd false (Sub.C1 rfl (Sub.C1 rfl (Sub.C1 rfl (Sub.C1 rfl (Sub.C1 rfl (Sub.C1 rfl Sub.nil)))))) ⟨⟨(by intro h; cases h), fun h => absurd (h.2.1) g1⟩, hS⟩)
      refine RL.eqv (v' := .bool true) (congrArg _ (beq_iff_eq.2 (by omega))) ?_
      refine RL.pure T_ok 3 rfl ?_
      refine RL.loadM T_ok hS rfl rfl rfl (by with_reducible repeat (first | exact zS .. | apply zO)) (by rfl) (by rfl) ?_
      refine RL.pure T_ok 1 rfl ?_
      by_cases g2 : room = []
      rotate_left
      · refine RL.eqv (v' := .bool false) (congrArg _ ((str_eq _ []).trans (decide_eq_false g2))) ?_
        refine RL.A1 T_ok rfl ?_
        exact RL.N1 (QN.cutEnd false (Sub.C1 rfl (Sub.C1 rfl (Sub.C1 rfl (Sub.C1 rfl (Sub.C1 rfl (Sub.C1 rfl Sub.nil)))))) ⟨⟨(by intro h; cases h), fun h => absurd (h.2.2.1) g2⟩, hS⟩)
      refine RL.eqv (v' := .bool true) (congrArg _ ((str_eq _ []).trans (decide_eq_true g2))) ?_
      refine RL.pure T_ok 3 rfl ?_
      refine RL.loadM T_ok hS rfl rfl rfl (by with_reducible repeat (first | exact zS .. | apply zO)) (by rfl) (by rfl) ?_
      refine RL.pure T_ok 2 rfl ?_
      by_cases g3 : b.length = 0
      rotate_left
      · refine RL.eqv (v' := .bool false) (congrArg _ (beq_false_of_ne (by omega))) ?_
        refine RL.A1 T_ok rfl ?_
        exact RL.N1 (QN.cutEnd false (Sub.C1 rfl (Sub.C1 rfl (Sub.C1 rfl (Sub.C1 rfl (Sub.C1 rfl (Sub.C1 rfl Sub.nil)))))) ⟨⟨(by intro h; cases h), fun h => absurd (h.2.2.2.1) g3⟩, hS⟩)
      refine RL.eqv (v' := .bool true) (congrArg _ (beq_iff_eq.2 (by omega))) ?_
      refine RL.pure T_ok 3 rfl ?_
      refine RL.loadM T_ok hS rfl rfl rfl (by with_reducible repeat (first | exact zS .. | apply zO)) (by rfl) (by rfl) ?_
      refine RL.pure T_ok 1 rfl ?_
      by_cases g4 : 1 ≤ n
      rotate_left
      · refine RL.eqv (v' := .bool false) (congrArg _ (decide_eq_false (by omega))) ?_
        refine RL.A1 T_ok rfl ?_
        exact RL.N1 (QN.cutEnd false (Sub.C1 rfl (Sub.C1 rfl (Sub.C1 rfl (Sub.C1 rfl (Sub.C1 rfl (Sub.C1 rfl Sub.nil)))))) ⟨⟨(by intro h; cases h), fun h => absurd (h.2.2.2.2.1) g4⟩, hS⟩)
      refine RL.eqv (v' := .bool true) (congrArg _ (decide_eq_true (by omega))) ?_
      refine RL.pure T_ok 3 rfl ?_
      refine RL.loadM T_ok hS rfl rfl rfl (by with_reducible repeat (first | exact zS .. | apply zO)) (by rfl) (by rfl) ?_
      refine RL.pure T_ok 1 rfl ?_
      by_cases g5 : n ≤ 9007199254740991
      rotate_left
      · refine RL.eqv (v' := .bool false) (congrArg _ (decide_eq_false (by omega))) ?_
        refine RL.A1 T_ok rfl ?_
        exact RL.N1 (QN.cutEnd false (Sub.C1 rfl (Sub.C1 rfl (Sub.C1 rfl (Sub.C1 rfl (Sub.C1 rfl (Sub.C1 rfl Sub.nil)))))) ⟨⟨(by intro h; cases h), fun h => absurd (h.2.2.2.2.2) g5⟩, hS⟩)
      refine RL.eqv (v' := .bool true) (congrArg _ (decide_eq_true (by omega))) ?_
      refine RL.A1 T_ok rfl ?_
      exact RL.N1 (QN.cutEnd true (Sub.C1 rfl (Sub.C1 rfl (Sub.C1 rfl (Sub.C1 rfl (Sub.C1 rfl (Sub.C1 rfl Sub.nil)))))) ⟨⟨fun _ => ⟨g0, g1, g2, g3, g4, g5⟩, fun _ => rfl⟩, hS⟩)
    clear hS
    rintro q m ⟨hA, hS⟩
    have q1 := encU_len10 (n := n) (by omega)
    (with_reducible repeat (first | refine WP.S1 ?_ | refine WP.B1 ?_ | refine WP.R1 ?_))
    refine RL.pure T_ok 2 rfl ?_
    refine RL.loadM T_ok hS rfl rfl rfl (by with_reducible repeat (first | exact zS .. | apply zO)) (by rfl) (by rfl) ?_
    refine RL.callM (fi := []) (ca := []) hS (refuint_s n (by omega) [b2] _ [UInt8.ofNat 4] (by simp)) rfl rfl rfl rfl (by repeat (first | with_reducible exact Sels.nil | apply Sels.ro (by with_reducible repeat (first | exact zS .. | apply zO)) (by rfl) | apply Sels.own (by with_reducible repeat (first | exact Sel.head | apply Sel.tail)))) ?_
    (try clear hS); rintro w2 m _ ⟨S6, rfl⟩ hS; (try simp only [zC, zN] at hS); refine ⟨_, rfl, ?_⟩
    refine RL.A1 T_ok rfl ?_
    refine RL.N1 ?_
    (with_reducible repeat (first | refine QN.B1 ?_))
    refine QN.cutEnd (q, w2, S6, _) (Sub.C1 rfl (Sub.C1 rfl Sub.nil)) ⟨hA.trans (ok46_iff (by omega)).symm, fun hq => ?_, Tr.drop (H := [_]) hS⟩
    show _ = Msg.enc _
    simp [Msg.enc]
  by_cases k6 : K = 6
  · subst k6
    obtain rfl := byte_is hkw 6 (by omega) rfl
    (with_reducible repeat (first | refine WP.S1 ?_ | refine WP.B1 ?_ | refine WP.R1 ?_))
    refine RL.pure T_ok 1 rfl ?_
    refine RL.loadM T_ok hS rfl rfl rfl (by with_reducible repeat (first | exact zS .. | apply zO)) (by rfl) (by rfl) ?_
    refine RL.N1 ?_; (with_reducible repeat (first | refine QN.B1 ?_ | refine QN.N1 ?_))
    (with_reducible repeat (first | refine WP.S1 ?_ | refine WP.B1 ?_ | refine WP.R1 ?_))
    refine RL.A1 T_ok rfl ?_
    refine RL.N1 ?_; (with_reducible repeat (first | refine QN.B1 ?_ | refine QN.N1 ?_))
    refine WP.condF rfl ?_
    (with_reducible repeat (first | refine WP.S1 ?_ | refine WP.B1 ?_ | refine WP.R1 ?_))
    refine RL.A1 T_ok rfl ?_
    refine RL.N1 ?_; (with_reducible repeat (first | refine QN.B1 ?_ | refine QN.N1 ?_))
    refine WP.condF rfl ?_
    (with_reducible repeat (first | refine WP.S1 ?_ | refine WP.B1 ?_ | refine WP.R1 ?_))
    refine RL.A1 T_ok rfl ?_
    refine RL.N1 ?_; (with_reducible repeat (first | refine QN.B1 ?_ | refine QN.N1 ?_))
    refine WP.condF rfl ?_
    (with_reducible repeat (first | refine WP.S1 ?_ | refine WP.B1 ?_ | refine WP.R1 ?_))
    refine RL.A1 T_ok rfl ?_
    refine RL.N1 ?_; (with_reducible repeat (first | refine QN.B1 ?_ | refine QN.N1 ?_))
    refine WP.condF rfl ?_
    (with_reducible repeat (first | refine WP.S1 ?_ | refine WP.B1 ?_ | refine WP.R1 ?_))
    refine RL.A1 T_ok rfl ?_
    refine RL.N1 ?_; (with_reducible repeat (first | refine QN.B1 ?_ | refine QN.N1 ?_))
    refine WP.condF rfl ?_
    (with_reducible repeat (first | refine WP.S1 ?_ | refine WP.B1 ?_ | refine WP.R1 ?_))
    refine RL.A1 T_ok rfl ?_
    refine RL.N1 ?_; (with_reducible repeat (first | refine QN.B1 ?_ | refine QN.N1 ?_))
    refine WP.condT rfl ?_
    refine WP.cut (X := Bool) (fun q => [(1, .pointer (some ⟨b1, 0, none⟩)), (4, .slice A1 (vclean vec).length c1), (5, .slice A2 (tnorm turns).length c2), (6, .bool (decide (0 < vec.length + turns.length))), (7, .slice (some ⟨b2, 0, none⟩) 1 1), (8, .bool q)]) (fun q m => (q = true ↔ vec.length + turns.length = 0 ∧ c = 0 ∧ room = [] ∧ b.length = 0 ∧ 1 ≤ n ∧ n ≤ 9007199254740991) ∧ Tr m0 PP X m [ownA [b2] 5 1 (.slice (some ⟨b2, 0, none⟩) 1 1) ([UInt8.ofNat 6]).length (u8s ([UInt8.ofNat 6])), blkA b1 27 [.int .i64 6, .int .u64 c, .int .u64 n, .string (str room), .slice vA vec.length vc, .slice tA turns.length tc, .slice bA b.length bc], roA 2 (.slice A1 (vclean vec).length c1) ((vclean vec).flatMap cC), roA 4 (.slice A2 (tnorm turns).length c2) ((tnorm turns).flatMap tC), roA 1 (.slice bA b.length bc) (u8s b)]) ?_ ?_
    · skip
      (with_reducible repeat (first | refine WP.S1 ?_ | refine WP.B1 ?_ | refine WP.R1 ?_))
      refine RL.pure T_ok 2 rfl ?_
      by_cases g0 : vec.length + turns.length = 0
      rotate_left
      · refine RL.eqv (v' := .bool false) (congrArg _ (by rw [decide_eq_true (by omega)]; rfl)) ?_
        refine RL.A1 T_ok rfl ?_
        exact RL.N1 (QN.cutEnd false (Sub.C1 rfl (Sub.C1 rfl (Sub.C1 rfl (Sub.C1 rfl (Sub.C1 rfl (Sub.C1 rfl Sub.nil)))))) ⟨⟨(by intro h; cases h), fun h => absurd (h.1) g0⟩, hS⟩)
      refine RL.eqv (v' := .bool true) (congrArg _ (by rw [decide_eq_false (by omega)]; rfl)) ?_
      refine RL.pure T_ok 2 rfl ?_
      refine RL.loadM T_ok hS rfl rfl rfl (by with_reducible repeat (first | exact zS .. | apply zO)) (by rfl) (by rfl) ?_
      refine RL.pure T_ok 1 rfl ?_
      by_cases g1 : c = 0
      rotate_left
      · refine RL.eqv (v' := .bool false) (congrArg _ (beq_false_of_ne (by omega))) ?_
        refine RL.A1 T_ok rfl ?_
        exact RL.N1 (QN.cutEnd false (Sub.C1 rfl (Sub.C1 rfl (Sub.C1 rfl (Sub.C1 rfl (Sub.C1 rfl (Sub.C1 rfl Sub.nil)))))) ⟨⟨(by intro h; cases h), fun h => absurd (h.2.1) g1⟩, hS⟩)
      refine RL.eqv (v' := .bool true) (congrArg _ (beq_iff_eq.2 (by omega))) ?_
      refine RL.pure T_ok 3 rfl ?_
      refine RL.loadM T_ok hS rfl rfl rfl (by with_reducible repeat (first | exact zS .. | apply zO)) (by rfl) (by rfl) ?_
      refine RL.pure T_ok 1 rfl ?_
      by_cases g2 : room = []
      rotate_left
      · refine RL.eqv (v' := .bool false) (congrArg _ ((str_eq _ []).trans (decide_eq_false g2))) ?_
        refine RL.A1 T_ok rfl ?_
        exact RL.N1 (QN.cutEnd false (Sub.C1 rfl (Sub.C1 rfl (Sub.C1 rfl (Sub.C1 rfl (Sub.C1 rfl (Sub.C1 rfl Sub.nil)))))) ⟨⟨(by intro h; cases h), fun h => absurd (h.2.2.1) g2⟩, hS⟩)
      refine RL.eqv (v' := .bool true) (congrArg _ ((str_eq _ []).trans (decide_eq_true g2))) ?_
      refine RL.pure T_ok 3 rfl ?_
      refine RL.loadM T_ok hS rfl rfl rfl (by with_reducible repeat (first | exact zS .. | apply zO)) (by rfl) (by rfl) ?_
      refine RL.pure T_ok 2 rfl ?_
      by_cases g3 : b.length = 0
      rotate_left
      · refine RL.eqv (v' := .bool false) (congrArg _ (beq_false_of_ne (by omega))) ?_
        refine RL.A1 T_ok rfl ?_
        exact RL.N1 (QN.cutEnd false (Sub.C1 rfl (Sub.C1 rfl (Sub.C1 rfl (Sub.C1 rfl (Sub.C1 rfl (Sub.C1 rfl Sub.nil)))))) ⟨⟨(by intro h; cases h), fun h => absurd (h.2.2.2.1) g3⟩, hS⟩)
      refine RL.eqv (v' := .bool true) (congrArg _ (beq_iff_eq.2 (by omega))) ?_
      refine RL.pure T_ok 3 rfl ?_
      refine RL.loadM T_ok hS rfl rfl rfl (by with_reducible repeat (first | exact zS .. | apply zO)) (by rfl) (by rfl) ?_
      refine RL.pure T_ok 1 rfl ?_
      by_cases g4 : 1 ≤ n
      rotate_left
      · refine RL.eqv (v' := .bool false) (congrArg _ (decide_eq_false (by omega))) ?_
        refine RL.A1 T_ok rfl ?_
        exact RL.N1 (QN.cutEnd false (Sub.C1 rfl (Sub.C1 rfl (Sub.C1 rfl (Sub.C1 rfl (Sub.C1 rfl (Sub.C1 rfl Sub.nil)))))) ⟨⟨(by intro h; cases h), fun h => absurd (h.2.2.2.2.1) g4⟩, hS⟩)
      refine RL.eqv (v' := .bool true) (congrArg _ (decide_eq_true (by omega))) ?_
      refine RL.pure T_ok 3 rfl ?_
      refine RL.loadM T_ok hS rfl rfl rfl (by with_reducible repeat (first | exact zS .. | apply zO)) (by rfl) (by rfl) ?_
      refine RL.pure T_ok 1 rfl ?_
      by_cases g5 : n ≤ 9007199254740991
      rotate_left
      · refine RL.eqv (v' := .bool false) (congrArg _ (decide_eq_false (by omega))) ?_
        refine RL.A1 T_ok rfl ?_
        exact RL.N1 (QN.cutEnd false (Sub.C1 rfl (Sub.C1 rfl (Sub.C1 rfl (Sub.C1 rfl (Sub.C1 rfl (Sub.C1 rfl Sub.nil)))))) ⟨⟨(by intro h; cases h), fun h => absurd (h.2.2.2.2.2) g5⟩, hS⟩)
      refine RL.eqv (v' := .bool true) (congrArg _ (decide_eq_true (by omega))) ?_
      refine RL.A1 T_ok rfl ?_
      exact RL.N1 (QN.cutEnd true (Sub.C1 rfl (Sub.C1 rfl (Sub.C1 rfl (Sub.C1 rfl (Sub.C1 rfl (Sub.C1 rfl Sub.nil)))))) ⟨⟨fun _ => ⟨g0, g1, g2, g3, g4, g5⟩, fun _ => rfl⟩, hS⟩)
    clear hS
    rintro q m ⟨hA, hS⟩
    have q1 := encU_len10 (n := n) (by omega)
    (with_reducible repeat (first | refine WP.S1 ?_ | refine WP.B1 ?_ | refine WP.R1 ?_))
    refine RL.pure T_ok 2 rfl ?_
    refine RL.loadM T_ok hS rfl rfl rfl (by with_reducible repeat (first | exact zS .. | apply zO)) (by rfl) (by rfl) ?_
    refine RL.callM (fi := []) (ca := []) hS (refuint_s n (by omega) [b2] _ [UInt8.ofNat 6] (by simp)) rfl rfl rfl rfl (by repeat (first | with_reducible exact Sels.nil | apply Sels.ro (by with_reducible repeat (first | exact zS .. | apply zO)) (by rfl) | apply Sels.own (by with_reducible repeat (first | exact Sel.head | apply Sel.tail)))) ?_
    (try clear hS); rintro w2 m _ ⟨S6, rfl⟩ hS; (try simp only [zC, zN] at hS); refine ⟨_, rfl, ?_⟩
    refine RL.A1 T_ok rfl ?_
    refine RL.N1 ?_
    (with_reducible repeat (first | refine QN.B1 ?_))
    refine QN.cutEnd (q, w2, S6, _) (Sub.C1 rfl (Sub.C1 rfl Sub.nil)) ⟨hA.trans (ok46_iff (by omega)).symm, fun hq => ?_, Tr.drop (H := [_]) hS⟩
    show _ = Msg.enc _
    simp [Msg.enc]
  (with_reducible repeat (first | refine WP.S1 ?_ | refine WP.B1 ?_ | refine WP.R1 ?_))
  refine RL.pure T_ok 1 rfl ?_
  refine RL.loadM T_ok hS rfl rfl rfl (by with_reducible repeat (first | exact zS .. | apply zO)) (by rfl) (by rfl) ?_
  refine RL.N1 ?_; (with_reducible repeat (first | refine QN.B1 ?_ | refine QN.N1 ?_))
  (with_reducible repeat (first | refine WP.S1 ?_ | refine WP.B1 ?_ | refine WP.R1 ?_))
  refine RL.pure T_ok 1 rfl ?_
  refine RL.eqv (v' := .bool false) (congrArg _ (beq_false_of_ne k1)) ?_
  refine RL.A1 T_ok rfl ?_
  refine RL.N1 ?_; (with_reducible repeat (first | refine QN.B1 ?_ | refine QN.N1 ?_))
  refine WP.condF rfl ?_
  (with_reducible repeat (first | refine WP.S1 ?_ | refine WP.B1 ?_ | refine WP.R1 ?_))
  refine RL.pure T_ok 1 rfl ?_
  refine RL.eqv (v' := .bool false) (congrArg _ (beq_false_of_ne k2)) ?_
  refine RL.A1 T_ok rfl ?_
  refine RL.N1 ?_; (with_reducible repeat (first | refine QN.B1 ?_ | refine QN.N1 ?_))
  refine WP.condF rfl ?_
  (with_reducible repeat (first | refine WP.S1 ?_ | refine WP.B1 ?_ | refine WP.R1 ?_))
  refine RL.pure T_ok 1 rfl ?_
  refine RL.eqv (v' := .bool false) (congrArg _ (beq_false_of_ne k3)) ?_
  refine RL.A1 T_ok rfl ?_
  refine RL.N1 ?_; (with_reducible repeat (first | refine QN.B1 ?_ | refine QN.N1 ?_))
  refine WP.condF rfl ?_
  (with_reducible repeat (first | refine WP.S1 ?_ | refine WP.B1 ?_ | refine WP.R1 ?_))
  refine RL.pure T_ok 1 rfl ?_
  refine RL.eqv (v' := .bool false) (congrArg _ (beq_false_of_ne k5)) ?_
  refine RL.A1 T_ok rfl ?_
  refine RL.N1 ?_; (with_reducible repeat (first | refine QN.B1 ?_ | refine QN.N1 ?_))
  refine WP.condF rfl ?_
  (with_reducible repeat (first | refine WP.S1 ?_ | refine WP.B1 ?_ | refine WP.R1 ?_))
  refine RL.pure T_ok 1 rfl ?_
  refine RL.eqv (v' := .bool false) (congrArg _ (beq_false_of_ne k4)) ?_
  refine RL.A1 T_ok rfl ?_
  refine RL.N1 ?_; (with_reducible repeat (first | refine QN.B1 ?_ | refine QN.N1 ?_))
  refine WP.condF rfl ?_
  (with_reducible repeat (first | refine WP.S1 ?_ | refine WP.B1 ?_ | refine WP.R1 ?_))
  refine RL.pure T_ok 1 rfl ?_
  refine RL.eqv (v' := .bool false) (congrArg _ (beq_false_of_ne k6)) ?_
  refine RL.A1 T_ok rfl ?_
  refine RL.N1 ?_; (with_reducible repeat (first | refine QN.B1 ?_ | refine QN.N1 ?_))
  refine WP.condF rfl ?_
  refine WP.skip ?_; (with_reducible repeat (first | refine QN.B1 ?_ | refine QN.N1 ?_))
  exact QN.cutEnd (false, _, _, [kb]) (Sub.C1 rfl (Sub.C1 rfl Sub.nil)) ⟨⟨(by intro h; cases h), fun h => absurd h (ok0_iff k1 k2 k3 k4 k5 k6)⟩, fun h => (by cases h), Tr.drop (H := [_]) hS⟩
end Go.Proofs.YtmjpcaiehfimgaaGreatDoor
end
section
namespace Go.Proofs.YtmjpcaiehfimgaaGreatDoor
open Go.RowKit Go.Ev Go.Ids
end Go.Proofs.YtmjpcaiehfimgaaGreatDoor
end
section
namespace Go.Proofs.YtmjpcaiehfimgaaGreatDoor
open Go.RowKit Go.Ev Go.Ids
def Msg.light (g : Msg) : Bool := decide (g.room.length ≤ 200) && (decide (g.vec.length ≤ 60) && (decide (g.turns.length ≤ 60) && decide (g.b.length ≤ 3000)))
theorem light_iff {g : Msg} : Msg.light g = true ↔ g.room.length ≤ 200 ∧ g.vec.length ≤ 60 ∧ g.turns.length ≤ 60 ∧ g.b.length ≤ 3000 := by
  simp [Msg.light]
theorem light_s (g : Msg) (vv tv bv : Value) : DoS Tryz.prog 7 [.agg (mC g vv tv bv).toArray] (mR g vv tv bv) (fun r H => r = .bool (Msg.light g) ∧ H = []) := by
  intro m0 X hS
  have fin : ∀ q m H, Msg.light g = q → Tr m0 (ofps (mR g vv tv bv)) X m H → ∃ r, Ending.returned (.bool q) = .returned r ∧ ∃ H', (r = Value.bool (Msg.light g) ∧ H' = []) ∧ Tr m0 (ofps (mR g vv tv bv)) X m H' := fun q m H hb hS => ⟨_, rfl, [], ⟨by rw [hb], rfl⟩, Tr.drop (H := []) hS⟩
  generalize hP : ofps (mR g vv tv bv) = PP at *
  clear hP
  obtain ⟨K, c, n, room, vec, turns, b⟩ := g
  have hS : Tr m0 PP X m0 [roA 2 vv (vec.flatMap cC), roA 4 tv (turns.flatMap tC), roA 1 bv (u8s b)] := hS
  obtain ⟨vA, vc, rfl, _, _⟩ := Sl.shape (n := vec.length) (hS.mem (A := roA 2 vv (vec.flatMap cC)) (by simp)).1 (csC_len _) (by omega)
  obtain ⟨tA, tc, rfl, _, _⟩ := Sl.shape (n := turns.length) (hS.mem (A := roA 4 tv (turns.flatMap tC)) (by simp)).1 (tsC_len _) (by omega)
  obtain ⟨bA, bc, rfl, _, _⟩ := Sl.shape (n := b.length) (hS.mem (A := roA 1 bv (u8s b)) (by simp)).1 (by simp [u8s]) (by omega)
  refine FnE.enter ⟨_, Tryz.func7, by kernel_rfl, by kernel_rfl⟩ Tryz.func7 rfl rfl ?_
  (with_reducible repeat (first | refine WP.S1 ?_ | refine WP.B1 ?_ | refine WP.R1 ?_))
  refine RL.boxS hS rfl rfl rfl ?_; (try clear hS); intro b1 m hS; refine ⟨_, rfl, ?_⟩
  dsimp only [mC] at hS
  refine RL.A1 T_ok rfl ?_
  refine RL.N1 ?_; (with_reducible repeat (first | refine QN.B1 ?_ | refine QN.N1 ?_ | refine WP.S1 ?_ | refine WP.B1 ?_ | refine WP.R1 ?_))
  refine RL.pure T_ok 1 rfl ?_
  refine RL.loadM T_ok hS rfl rfl rfl (by with_reducible repeat (first | exact zS .. | apply zO)) (by rfl) (by rfl) ?_
  refine RL.pure T_ok 1 rfl ?_
  refine RL.eqv (v' := .int .i64 room.length) (congrArg _ (congrArg _ (str_sz room))) ?_
  refine RL.pure T_ok 1 rfl ?_
  by_cases h0 : room.length ≤ 200
  rotate_left
  · refine RL.eqv (v' := .bool false) (congrArg _ (decide_eq_false (by omega))) ?_
    refine RL.A1 T_ok rfl ?_
    refine RL.N1 ?_; (with_reducible repeat (first | refine QN.B1 ?_ | refine QN.N1 ?_ | refine WP.S1 ?_ | refine WP.B1 ?_ | refine WP.R1 ?_))
    refine WP.ret ?_; (with_reducible repeat (first | refine QN.tr ?_ | refine QN.br ?_))
    exact QN.ret1 rfl rfl (fin _ _ _ (by unfold Msg.light; simp [h0]) hS)
  refine RL.eqv (v' := .bool true) (congrArg _ (decide_eq_true (by omega))) ?_
  refine RL.pure T_ok 2 rfl ?_
  refine RL.loadM T_ok hS rfl rfl rfl (by with_reducible repeat (first | exact zS .. | apply zO)) (by rfl) (by rfl) ?_
  refine RL.pure T_ok 2 rfl ?_
  by_cases h1 : vec.length ≤ 60
  rotate_left
  · refine RL.eqv (v' := .bool false) (congrArg _ (decide_eq_false (by omega))) ?_
    refine RL.A1 T_ok rfl ?_
    refine RL.N1 ?_; (with_reducible repeat (first | refine QN.B1 ?_ | refine QN.N1 ?_ | refine WP.S1 ?_ | refine WP.B1 ?_ | refine WP.R1 ?_))
    refine WP.ret ?_; (with_reducible repeat (first | refine QN.tr ?_ | refine QN.br ?_))
    exact QN.ret1 rfl rfl (fin _ _ _ (by unfold Msg.light; simp [h0, h1]) hS)
  refine RL.eqv (v' := .bool true) (congrArg _ (decide_eq_true (by omega))) ?_
  refine RL.pure T_ok 3 rfl ?_
  refine RL.loadM T_ok hS rfl rfl rfl (by with_reducible repeat (first | exact zS .. | apply zO)) (by rfl) (by rfl) ?_
  refine RL.pure T_ok 2 rfl ?_
  by_cases h2 : turns.length ≤ 60
  rotate_left
  · refine RL.eqv (v' := .bool false) (congrArg _ (decide_eq_false (by omega))) ?_
    refine RL.A1 T_ok rfl ?_
    refine RL.N1 ?_; (with_reducible repeat (first | refine QN.B1 ?_ | refine QN.N1 ?_ | refine WP.S1 ?_ | refine WP.B1 ?_ | refine WP.R1 ?_))
    refine WP.ret ?_; (with_reducible repeat (first | refine QN.tr ?_ | refine QN.br ?_))
    exact QN.ret1 rfl rfl (fin _ _ _ (by unfold Msg.light; simp [h0, h1, h2]) hS)
  refine RL.eqv (v' := .bool true) (congrArg _ (decide_eq_true (by omega))) ?_
  refine RL.pure T_ok 3 rfl ?_
  refine RL.loadM T_ok hS rfl rfl rfl (by with_reducible repeat (first | exact zS .. | apply zO)) (by rfl) (by rfl) ?_
  refine RL.pure T_ok 2 rfl ?_
  by_cases h3 : b.length ≤ 3000
  rotate_left
  · refine RL.eqv (v' := .bool false) (congrArg _ (decide_eq_false (by omega))) ?_
    refine RL.A1 T_ok rfl ?_
    refine RL.N1 ?_; (with_reducible repeat (first | refine QN.B1 ?_ | refine QN.N1 ?_ | refine WP.S1 ?_ | refine WP.B1 ?_ | refine WP.R1 ?_))
    refine WP.ret ?_; (with_reducible repeat (first | refine QN.tr ?_ | refine QN.br ?_))
    exact QN.ret1 rfl rfl (fin _ _ _ (by unfold Msg.light; simp [h0, h1, h2, h3]) hS)
  refine RL.eqv (v' := .bool true) (congrArg _ (decide_eq_true (by omega))) ?_
  refine RL.A1 T_ok rfl ?_
  refine RL.N1 ?_; (with_reducible repeat (first | refine QN.B1 ?_ | refine QN.N1 ?_ | refine WP.S1 ?_ | refine WP.B1 ?_ | refine WP.R1 ?_))
  refine WP.ret ?_; (with_reducible repeat (first | refine QN.tr ?_ | refine QN.br ?_))
  exact QN.ret1 rfl rfl (fin _ _ _ (by unfold Msg.light; simp [h0, h1, h2, h3]) hS)
theorem lsame_s (a b : Msg) (va ta ba vb tb bb : Value) (ha : a.Fit) : DoS Tryz.prog 14 [.agg (mC a va ta ba).toArray, .agg (mC b vb tb bb).toArray] (mR a va ta ba ++ mR b vb tb bb) (fun r H => r = .bool (a.same b) ∧ H = []) := by
  intro m0 X hS
  have fin : ∀ q m H, a.same b = q → Tr m0 (ofps (mR a va ta ba ++ mR b vb tb bb)) X m H → ∃ r, Ending.returned (.bool q) = .returned r ∧ ∃ H', (r = Value.bool (a.same b) ∧ H' = []) ∧ Tr m0 (ofps (mR a va ta ba ++ mR b vb tb bb)) X m H' := fun q m H hb hS => ⟨_, rfl, [], ⟨by rw [hb], rfl⟩, Tr.drop (H := []) hS⟩
  generalize hP : ofps (mR a va ta ba ++ mR b vb tb bb) = PP at *
  simp only [mR, zC, zN] at hS
  clear hP
  refine FnE.enter ⟨_, Tryz.func14, by kernel_rfl, by kernel_rfl⟩ Tryz.func14 rfl rfl ?_
  (with_reducible repeat (first | refine WP.S1 ?_ | refine WP.B1 ?_ | refine WP.R1 ?_))
  refine RL.boxS hS rfl rfl rfl ?_; (try clear hS); intro b2 m hS; refine ⟨_, rfl, ?_⟩
  refine RL.boxS hS rfl rfl rfl ?_; (try clear hS); intro b3 m hS; refine ⟨_, rfl, ?_⟩
  refine RL.A1 T_ok rfl ?_
  refine RL.N1 ?_; (with_reducible repeat (first | refine QN.B1 ?_ | refine QN.N1 ?_ | refine WP.S1 ?_ | refine WP.B1 ?_ | refine WP.R1 ?_))
  refine RL.pure T_ok 1 rfl ?_
  refine RL.loadM T_ok hS rfl rfl rfl (by with_reducible repeat (first | exact zS .. | apply zO)) (by rfl) (by rfl) ?_
  refine RL.pure T_ok 1 rfl ?_
  refine RL.loadM T_ok hS rfl rfl rfl (by with_reducible repeat (first | exact zS .. | apply zO)) (by rfl) (by rfl) ?_
  refine RL.pure T_ok 1 rfl ?_
  by_cases h0 : a.kind = b.kind
  rotate_left
  · refine RL.eqv (v' := .bool false) (congrArg _ (beq_false_of_ne (by omega))) ?_
    refine RL.A1 T_ok rfl ?_
    refine RL.N1 ?_; (with_reducible repeat (first | refine QN.B1 ?_ | refine QN.N1 ?_ | refine WP.S1 ?_ | refine WP.B1 ?_ | refine WP.R1 ?_))
    refine WP.ret ?_; (with_reducible repeat (first | refine QN.tr ?_ | refine QN.br ?_))
    exact QN.ret1 rfl rfl (fin _ _ _ (by unfold Msg.same; simp [h0]) hS)
  refine RL.eqv (v' := .bool true) (congrArg _ (beq_iff_eq.2 (by omega))) ?_
  refine RL.pure T_ok 2 rfl ?_
  refine RL.loadM T_ok hS rfl rfl rfl (by with_reducible repeat (first | exact zS .. | apply zO)) (by rfl) (by rfl) ?_
  refine RL.pure T_ok 1 rfl ?_
  refine RL.loadM T_ok hS rfl rfl rfl (by with_reducible repeat (first | exact zS .. | apply zO)) (by rfl) (by rfl) ?_
  refine RL.pure T_ok 1 rfl ?_
  by_cases h1 : a.c = b.c
  rotate_left
  · refine RL.eqv (v' := .bool false) (congrArg _ (beq_false_of_ne (by omega))) ?_
    refine RL.A1 T_ok rfl ?_
    refine RL.N1 ?_; (with_reducible repeat (first | refine QN.B1 ?_ | refine QN.N1 ?_ | refine WP.S1 ?_ | refine WP.B1 ?_ | refine WP.R1 ?_))
    refine WP.ret ?_; (with_reducible repeat (first | refine QN.tr ?_ | refine QN.br ?_))
    exact QN.ret1 rfl rfl (fin _ _ _ (by unfold Msg.same; simp [h0, h1]) hS)
  refine RL.eqv (v' := .bool true) (congrArg _ (beq_iff_eq.2 (by omega))) ?_
  refine RL.pure T_ok 3 rfl ?_
  refine RL.loadM T_ok hS rfl rfl rfl (by with_reducible repeat (first | exact zS .. | apply zO)) (by rfl) (by rfl) ?_
  refine RL.pure T_ok 1 rfl ?_
  refine RL.loadM T_ok hS rfl rfl rfl (by with_reducible repeat (first | exact zS .. | apply zO)) (by rfl) (by rfl) ?_
  refine RL.pure T_ok 1 rfl ?_
  by_cases h2 : a.n = b.n
  rotate_left
  · refine RL.eqv (v' := .bool false) (congrArg _ (beq_false_of_ne (by omega))) ?_
    refine RL.A1 T_ok rfl ?_
    refine RL.N1 ?_; (with_reducible repeat (first | refine QN.B1 ?_ | refine QN.N1 ?_ | refine WP.S1 ?_ | refine WP.B1 ?_ | refine WP.R1 ?_))
    refine WP.ret ?_; (with_reducible repeat (first | refine QN.tr ?_ | refine QN.br ?_))
    exact QN.ret1 rfl rfl (fin _ _ _ (by unfold Msg.same; simp [h0, h1, h2]) hS)
  refine RL.eqv (v' := .bool true) (congrArg _ (beq_iff_eq.2 (by omega))) ?_
  refine RL.pure T_ok 3 rfl ?_
  refine RL.loadM T_ok hS rfl rfl rfl (by with_reducible repeat (first | exact zS .. | apply zO)) (by rfl) (by rfl) ?_
  refine RL.pure T_ok 1 rfl ?_
  refine RL.loadM T_ok hS rfl rfl rfl (by with_reducible repeat (first | exact zS .. | apply zO)) (by rfl) (by rfl) ?_
  refine RL.pure T_ok 1 rfl ?_
  by_cases h3 : a.room = b.room
  rotate_left
  · refine RL.eqv (v' := .bool false) (congrArg _ ((str_eq _ _).trans (decide_eq_false h3))) ?_
    refine RL.A1 T_ok rfl ?_
    refine RL.N1 ?_; (with_reducible repeat (first | refine QN.B1 ?_ | refine QN.N1 ?_ | refine WP.S1 ?_ | refine WP.B1 ?_ | refine WP.R1 ?_))
    refine WP.ret ?_; (with_reducible repeat (first | refine QN.tr ?_ | refine QN.br ?_))
    exact QN.ret1 rfl rfl (fin _ _ _ (by unfold Msg.same; simp [h0, h1, h2, h3]) hS)
  refine RL.eqv (v' := .bool true) (congrArg _ ((str_eq _ _).trans (decide_eq_true h3))) ?_
  refine RL.pure T_ok 3 rfl ?_
  refine RL.loadM T_ok hS rfl rfl rfl (by with_reducible repeat (first | exact zS .. | apply zO)) (by rfl) (by rfl) ?_
  refine RL.pure T_ok 1 rfl ?_
  refine RL.loadM T_ok hS rfl rfl rfl (by with_reducible repeat (first | exact zS .. | apply zO)) (by rfl) (by rfl) ?_
  refine RL.callM (fi := []) (ca := []) hS (clocks_s _ _ a.vec b.vec (by have := ha.vec; omega)) rfl rfl rfl rfl (by repeat (first | with_reducible exact Sels.nil | apply Sels.ro (by with_reducible repeat (first | exact zS .. | apply zO)) (by rfl) | apply Sels.own (by with_reducible repeat (first | exact Sel.head | apply Sel.tail)))) ?_
  (try clear hS); rintro _ m _ ⟨rfl, rfl⟩ hS; (try simp only [zN] at hS); refine ⟨_, rfl, ?_⟩
  by_cases h4 : a.vec = b.vec
  rotate_left
  · refine RL.eqv (v' := .bool false) (congrArg _ (decide_eq_false h4)) ?_
    refine RL.A1 T_ok rfl ?_
    refine RL.N1 ?_; (with_reducible repeat (first | refine QN.B1 ?_ | refine QN.N1 ?_ | refine WP.S1 ?_ | refine WP.B1 ?_ | refine WP.R1 ?_))
    refine WP.ret ?_; (with_reducible repeat (first | refine QN.tr ?_ | refine QN.br ?_))
    exact QN.ret1 rfl rfl (fin _ _ _ (by unfold Msg.same; simp [h0, h1, h2, h3, h4]) hS)
  refine RL.eqv (v' := .bool true) (congrArg _ (decide_eq_true h4)) ?_
  refine RL.pure T_ok 3 rfl ?_
  refine RL.loadM T_ok hS rfl rfl rfl (by with_reducible repeat (first | exact zS .. | apply zO)) (by rfl) (by rfl) ?_
  refine RL.pure T_ok 1 rfl ?_
  refine RL.loadM T_ok hS rfl rfl rfl (by with_reducible repeat (first | exact zS .. | apply zO)) (by rfl) (by rfl) ?_
  refine RL.callM (fi := []) (ca := []) hS (turns_s _ _ a.turns b.turns (by have := ha.turns; omega)) rfl rfl rfl rfl (by repeat (first | with_reducible exact Sels.nil | apply Sels.ro (by with_reducible repeat (first | exact zS .. | apply zO)) (by rfl) | apply Sels.own (by with_reducible repeat (first | exact Sel.head | apply Sel.tail)))) ?_
  (try clear hS); rintro _ m _ ⟨rfl, rfl⟩ hS; (try simp only [zN] at hS); refine ⟨_, rfl, ?_⟩
  by_cases h5 : a.turns = b.turns
  rotate_left
  · refine RL.eqv (v' := .bool false) (congrArg _ (decide_eq_false h5)) ?_
    refine RL.A1 T_ok rfl ?_
    refine RL.N1 ?_; (with_reducible repeat (first | refine QN.B1 ?_ | refine QN.N1 ?_ | refine WP.S1 ?_ | refine WP.B1 ?_ | refine WP.R1 ?_))
    refine WP.ret ?_; (with_reducible repeat (first | refine QN.tr ?_ | refine QN.br ?_))
    exact QN.ret1 rfl rfl (fin _ _ _ (by unfold Msg.same; simp [h0, h1, h2, h3, h4, h5]) hS)
  refine RL.eqv (v' := .bool true) (congrArg _ (decide_eq_true h5)) ?_
  refine RL.pure T_ok 3 rfl ?_
  refine RL.loadM T_ok hS rfl rfl rfl (by with_reducible repeat (first | exact zS .. | apply zO)) (by rfl) (by rfl) ?_
  refine RL.pure T_ok 1 rfl ?_
  refine RL.loadM T_ok hS rfl rfl rfl (by with_reducible repeat (first | exact zS .. | apply zO)) (by rfl) (by rfl) ?_
  refine RL.callM (fi := []) (ca := []) hS (hbytes_s _ _ a.b b.b) rfl rfl rfl rfl (by repeat (first | with_reducible exact Sels.nil | apply Sels.ro (by with_reducible repeat (first | exact zS .. | apply zO)) (by rfl) | apply Sels.own (by with_reducible repeat (first | exact Sel.head | apply Sel.tail)))) ?_
  (try clear hS); rintro _ m _ ⟨rfl, rfl⟩ hS; (try simp only [zN] at hS); refine ⟨_, rfl, ?_⟩
  by_cases h6 : a.b = b.b
  rotate_left
  · refine RL.eqv (v' := .bool false) (congrArg _ (decide_eq_false h6)) ?_
    refine RL.A1 T_ok rfl ?_
    refine RL.N1 ?_; (with_reducible repeat (first | refine QN.B1 ?_ | refine QN.N1 ?_ | refine WP.S1 ?_ | refine WP.B1 ?_ | refine WP.R1 ?_))
    refine WP.ret ?_; (with_reducible repeat (first | refine QN.tr ?_ | refine QN.br ?_))
    exact QN.ret1 rfl rfl (fin _ _ _ (by unfold Msg.same; simp [h0, h1, h2, h3, h4, h5, h6]) hS)
  refine RL.eqv (v' := .bool true) (congrArg _ (decide_eq_true h6)) ?_
  refine RL.A1 T_ok rfl ?_
  refine RL.N1 ?_; (with_reducible repeat (first | refine QN.B1 ?_ | refine QN.N1 ?_ | refine WP.S1 ?_ | refine WP.B1 ?_ | refine WP.R1 ?_))
  refine WP.ret ?_; (with_reducible repeat (first | refine QN.tr ?_ | refine QN.br ?_))
  exact QN.ret1 rfl rfl (fin _ _ _ (by unfold Msg.same; simp [h0, h1, h2, h3, h4, h5, h6]) hS)
def ex1 : Msg := ⟨4, 0, 5, [], [], [], []⟩
def ex2 : Msg := ⟨1, 3, 0, [114], [⟨1, 2⟩], [], []⟩
def ex3 : Msg := ⟨4, 0, 0, [], [], [], []⟩
theorem ex1_ok : Msg.Ok txt ex1 := (ok46_iff (.inl rfl)).2 ⟨rfl, rfl, rfl, rfl, by decide, by decide⟩
theorem ex2_clean : vclean [⟨1, 2⟩] = [⟨1, 2⟩] := by decide
theorem ex2_ok : Msg.Ok txt ex2 := ok1_iff.2 ⟨⟨rfl, rfl, by rw [ex2_clean]; decide, by rw [tnorm_nil]; decide⟩, by decide, by decide, by decide, by decide, by decide⟩
theorem ex3_ok : Msg.ok txt ex3 = false := by
  rw [← Bool.not_eq_true, ok_iff]
  intro h
  have := ((ok46_iff (.inl rfl)).1 h).2.2.2.2.1
  exact absurd this (by decide)
theorem ex1_enc : ex1.enc = [4, 5] := by
  show UInt8.ofNat 4 :: encU 5 = _
  rw [encU_small (by omega)]
  rfl
theorem ex_fit1 : ex1.Fit := ⟨by decide, by decide, by decide, by decide⟩
theorem ex_fit2 : ex2.Fit := ⟨by decide, by decide, by decide, by decide⟩
theorem ex_fit3 : ex3.Fit := ⟨by decide, by decide, by decide, by decide⟩
set_option maxRecDepth 20000 in
theorem known_s : DoS Tryz.prog 6 [] [tabA] (fun r H => r = .bool true ∧ H = []) := by
  intro m0 X hS
  obtain ⟨PP, hP⟩ : ∃ PP, ofps [tabA] = PP := ⟨_, rfl⟩
  rw [hP] at hS ⊢
  clear hP
  have hS := ((hS.nilRo 2 (by omega)).nilRo 4 (by omega)).nilRo 1 (by omega)
  refine FnE.enter ⟨_, Tryz.func6, by kernel_rfl, by kernel_rfl⟩ Tryz.func6 rfl rfl ?_
  (with_reducible repeat (first | refine WP.S1 ?_ | refine WP.B1 ?_ | refine WP.R1 ?_))
  refine RL.A1 T_ok rfl ?_
  refine RL.N1 ?_; (with_reducible repeat (first | refine QN.B1 ?_ | refine QN.N1 ?_ | refine WP.S1 ?_ | refine WP.B1 ?_ | refine WP.R1 ?_))
  refine RL.A1 T_ok rfl ?_
  refine RL.callM (fi := []) (ca := []) hS (mwrite_s ex1 (.slice none 0 0) (.slice none 0 0) (.slice none 0 0) ex_fit1) rfl rfl rfl rfl (by unfold mR; exact (by repeat (first | with_reducible exact Sels.nil | apply Sels.ro (by repeat (first | exact zS .. | with_reducible apply zO)) (by rfl) | apply Sels.own (by repeat (first | exact Sel.head | with_reducible apply Sel.tail))))) ?_
  (try clear hS)
  rintro r m H' hW hS
  rcases hW with ⟨_, w1, S1, rfl, rfl⟩ | ⟨h, _⟩
  rotate_left
  · rw [ok_iff.2 ex1_ok] at h; cases h
  refine ⟨_, rfl, ?_⟩
  rw [ex1_enc] at hS
  have hS := Tr.freeze hS (by omega)
  simp only [List.append_eq, List.nil_append] at hS
  refine RL.A1 T_ok rfl ?_
  refine RL.N1 ?_; (with_reducible repeat (first | refine QN.B1 ?_ | refine QN.N1 ?_ | refine WP.S1 ?_ | refine WP.B1 ?_ | refine WP.R1 ?_))
  refine RL.A1 T_ok rfl ?_
  refine RL.litM T_ok hS [.tmp 17] (us := [.agg #[.int .u64 1, .int .u64 2]]) (([⟨1, 2⟩] : List Clk).flatMap cC) rfl rfl rfl rfl rfl rfl (by simp [Value.cells]) rfl rfl rfl ?_
  clear hS
  intro bk m hS
  refine ⟨_, rfl, ?_⟩
  have hS := Tr.freeze hS (by decide)
  refine RL.A1 T_ok rfl ?_
  refine RL.callM (fi := []) (ca := []) hS (mwrite_s ex2 (.slice (some ⟨bk, 0, none⟩) 1 1) (.slice none 0 0) (.slice none 0 0) ex_fit2) rfl rfl rfl rfl (by unfold mR; exact (by repeat (first | with_reducible exact Sels.nil | apply Sels.ro (by repeat (first | exact zS .. | with_reducible apply zO)) (by rfl) | apply Sels.own (by repeat (first | exact Sel.head | with_reducible apply Sel.tail))))) ?_
  (try clear hS)
  rintro r m H' hW hS
  rcases hW with ⟨_, w2, S2, rfl, rfl⟩ | ⟨h, _⟩
  rotate_left
  · rw [ok_iff.2 ex2_ok] at h; cases h
  refine ⟨_, rfl, ?_⟩
  have hS := Tr.freeze hS (by omega)
  simp only [List.append_eq, List.nil_append] at hS
  have hel := enc_len ex2_ok ex_fit2
  have hsz : ex2.enc.length ≤ 100 := by
    show (UInt8.ofNat 1 :: (encU 3 ++ (encS [114] ++ (encV (vclean [⟨1, 2⟩]) ++ encTs (tnorm []))))).length ≤ 100
    rw [tnorm_nil, ex2_clean]
    have h1 := encU_len10 (n := 3) (by omega)
    have h2 := encS_len [114] (by decide)
    have h3 := encL_len 0 [⟨1, 2⟩] (by intro x hx; have : x = ⟨1, 2⟩ := by simpa using hx
                                       subst this; unfold Clk.ok; decide)
    have h4 := encU_len10 (n := ([⟨1, 2⟩] : List Clk).length) (by decide)
    have h5 := encU_len10 (n := ([] : List Trn).length) (by decide)
    simp only [encV, encTs, List.length_cons, List.length_append, List.flatMap_nil, List.length_nil] at *
    omega
  refine RL.A1 T_ok rfl ?_
  refine RL.N1 ?_; (with_reducible repeat (first | refine QN.B1 ?_ | refine QN.N1 ?_ | refine WP.S1 ?_ | refine WP.B1 ?_ | refine WP.R1 ?_))
  refine RL.A1 T_ok rfl ?_
  refine RL.callM (fi := []) (ca := []) hS (msgread_s w2 ex2.enc (by omega)) rfl rfl rfl rfl (by repeat (first | with_reducible exact Sels.nil | apply Sels.ro (by with_reducible repeat (first | exact zS .. | apply zO)) (by rfl) | apply Sels.own (by with_reducible repeat (first | exact Sel.head | apply Sel.tail)))) ?_
  (try clear hS)
  rw [read_back ex2_ok]
  rintro r m H' ⟨vv, tv, bv, rfl, rfl⟩ hS
  refine ⟨_, rfl, ?_⟩
  simp only [mR, List.nil_append, List.cons_append] at hS
  obtain ⟨vA, vc, rfl, _, _⟩ := Sl.shape (n := 1) (hS.mem (A := roA 2 vv (ex2.clean.vec.flatMap cC)) (by simp)).1 (by show ((vclean [⟨1, 2⟩]).flatMap cC).length = _; rw [ex2_clean]; rfl) (by omega)
  have ones : (mC ex2.clean (.slice vA 1 vc) tv bv).all Value.oneCell' = true := by
    simp only [mC, List.all_cons, List.all_nil, (hS.mem (A := roA 2 (.slice vA 1 vc) (ex2.clean.vec.flatMap cC)) (by simp)).1.one, (hS.mem (A := roA 4 tv (ex2.clean.turns.flatMap tC)) (by simp)).1.one, (hS.mem (A := roA 1 bv (u8s ex2.clean.b)) (by simp)).1.one]
    rfl
  refine RL.A1 T_ok rfl ?_
  refine RL.allocS T_ok rfl hS rfl rfl ?_; (try clear hS); intro b5 m hS; refine ⟨_, rfl, ?_⟩
  refine RL.ssM T_ok hS (vs := mC ex2.clean (.slice vA 1 vc) tv bv) rfl rfl rfl rfl rfl ones (by rfl) (by with_reducible repeat (first | exact Rep.head | apply Rep.tail)) (by rfl) ?_
  (try clear hS); intro m hS
  change Tr m0 PP X m (blkA b5 27 [.int .i64 1, .int .u64 3, .int .u64 0, .string (str [114]), .slice vA 1 vc, tv, bv] :: _) at hS
  refine RL.A1 T_ok rfl ?_
  refine RL.N1 ?_; (with_reducible repeat (first | refine QN.B1 ?_ | refine QN.N1 ?_ | refine WP.S1 ?_ | refine WP.B1 ?_ | refine WP.R1 ?_))
  refine RL.A1 T_ok rfl ?_
  refine RL.callM (fi := []) (ca := []) hS (copy_s w2 ex2.enc (by omega)) rfl rfl rfl rfl (by repeat (first | with_reducible exact Sels.nil | apply Sels.ro (by with_reducible repeat (first | exact zS .. | apply zO)) (by rfl) | apply Sels.own (by with_reducible repeat (first | exact Sel.head | apply Sel.tail)))) ?_
  (try clear hS); rintro w3 m _ ⟨S3, rfl⟩ hS; (try simp only [zC, zN] at hS); refine ⟨_, rfl, ?_⟩
  refine RL.append1M T_ok hS [.const (.int .u8 0)] (u8s [0]) rfl rfl rfl rfl rfl rfl rfl rfl rfl rfl (by repeat (first | exact Sel.head | apply Sel.tail)) (by simp [Value.cells]) (by decide) (by unfold maxLen; omega) (by show (_ + _) * 1 ≤ _; omega) ?_
  clear hS
  intro bb w4 m S4 hS
  refine ⟨_, rfl, ?_⟩
  have hS := Tr.freeze hS (by decide)
  rw [show u8s ex2.enc ++ u8s [0] = u8s (ex2.enc ++ [0]) by simp [u8s]] at hS
  refine RL.A1 T_ok rfl ?_
  refine RL.callM (fi := []) (ca := []) hS (msgread_s w4 (ex2.enc ++ [0]) (by simp only [List.length_append, List.length_singleton]; omega)) rfl rfl rfl rfl (by repeat (first | with_reducible exact Sels.nil | apply Sels.ro (by repeat (first | exact zS .. | with_reducible apply zO)) (by rfl) | apply Sels.own (by repeat (first | exact Sel.head | with_reducible apply Sel.tail)))) ?_
  (try clear hS)
  rw [read_more ex2_ok (by simp)]
  rintro r m H' ⟨rfl, rfl⟩ hS
  refine ⟨_, rfl, ?_⟩
  simp only [List.nil_append] at hS
  refine RL.A1 T_ok rfl ?_
  refine RL.allocS T_ok rfl hS rfl rfl ?_; (try clear hS); intro b7 m hS; refine ⟨_, rfl, ?_⟩
  refine RL.ssM T_ok hS (vs := zM) rfl rfl rfl rfl rfl (by rfl) (by rfl) (by with_reducible repeat (first | exact Rep.head | apply Rep.tail)) (by rfl) ?_
  (try clear hS); intro m hS
  refine RL.A1 T_ok rfl ?_
  refine RL.N1 ?_; (with_reducible repeat (first | refine QN.B1 ?_ | refine QN.N1 ?_ | refine WP.S1 ?_ | refine WP.B1 ?_ | refine WP.R1 ?_))
  refine RL.A1 T_ok rfl ?_
  refine RL.callM (fi := []) (ca := []) hS (mwrite_s ex3 (.slice none 0 0) (.slice none 0 0) (.slice none 0 0) ex_fit3) rfl rfl rfl rfl (by unfold mR; exact (by repeat (first | with_reducible exact Sels.nil | apply Sels.ro (by repeat (first | exact zS .. | with_reducible apply zO)) (by rfl) | apply Sels.own (by repeat (first | exact Sel.head | with_reducible apply Sel.tail))))) ?_
  (try clear hS)
  rintro r m H' hW hS
  rcases hW with ⟨h, _⟩ | ⟨_, rfl, rfl⟩
  · rw [ex3_ok] at h; cases h
  refine ⟨_, rfl, ?_⟩
  simp only [List.nil_append] at hS
  refine RL.A1 T_ok rfl ?_
  refine RL.N1 ?_; (with_reducible repeat (first | refine QN.B1 ?_ | refine QN.N1 ?_ | refine WP.S1 ?_ | refine WP.B1 ?_ | refine WP.R1 ?_))
  refine RL.A1 T_ok rfl ?_
  refine RL.litM T_ok hS [.const (.int .u8 4), .const (.int .u8 5)] (us := [.int .u8 4, .int .u8 5]) (u8s [4, 5]) rfl rfl rfl rfl rfl rfl (by simp [Value.cells]) rfl rfl rfl ?_
  clear hS
  intro bl m hS
  refine ⟨_, rfl, ?_⟩
  have hS := Tr.freeze hS (by decide)
  refine RL.callM (fi := []) (ca := []) hS (hbytes_s w1 _ [4, 5] [4, 5]) rfl rfl rfl rfl (by repeat (first | with_reducible exact Sels.nil | apply Sels.ro (by with_reducible repeat (first | exact zS .. | apply zO)) (by rfl) | apply Sels.own (by with_reducible repeat (first | exact Sel.head | apply Sel.tail)))) ?_
  (try clear hS); rintro _ m _ ⟨rfl, rfl⟩ hS; (try simp only [zN] at hS); refine ⟨_, rfl, ?_⟩
  repeat (first | refine RL.autoP T_ok rfl rfl ?_ | refine RL.loadM T_ok hS rfl rfl rfl (by with_reducible repeat (first | exact zS .. | apply zO)) (by rfl) (by rfl) ?_ | refine RL.lsM T_ok hS rfl rfl rfl (by with_reducible repeat (first | exact zS .. | apply zO)) (by rfl) (by rfl) (by rfl) ?_)
  refine RL.pure T_ok 1 rfl ?_
  refine RL.eqv (v' := .bool true) (congrArg _ ((str_eq [114] [114]).trans (decide_eq_true rfl))) ?_
  repeat (first | refine RL.autoP T_ok rfl rfl ?_ | refine RL.loadM T_ok hS rfl rfl rfl (by with_reducible repeat (first | exact zS .. | apply zO)) (by rfl) (by rfl) ?_ | refine RL.lsM T_ok hS rfl rfl rfl (by with_reducible repeat (first | exact zS .. | apply zO)) (by rfl) (by rfl) (by rfl) ?_ | (refine RL.N1 ?_; (with_reducible repeat (first | refine QN.B1 ?_ | refine QN.N1 ?_))) | with_reducible refine WP.S1 ?_ | with_reducible refine WP.B1 ?_ | with_reducible refine WP.R1 ?_ | (refine WP.skip ?_; (with_reducible repeat (first | refine QN.B1 ?_ | refine QN.N1 ?_))) | refine WP.condT rfl ?_ | refine WP.condF rfl ?_)
  refine WP.ret ?_; (with_reducible repeat (first | refine QN.tr ?_ | refine QN.br ?_))
  exact QN.ret1 rfl rfl ⟨_, rfl, [], ⟨rfl, rfl⟩, Tr.drop (H := []) hS⟩
end Go.Proofs.YtmjpcaiehfimgaaGreatDoor
end
section
namespace Go.Proofs.YtmjpcaiehfimgaaGreatDoor
open Go.RowKit Go.Ev Go.Ids
theorem light_fit {g : Msg} (h : Msg.light g = true) : g.Fit := by
  have := light_iff.1 h
  exact ⟨by omega, by omega, by omega, by omega⟩
theorem light_cfit {g : Msg} (h : Msg.light g = true) : g.clean.Fit := by
  have := light_iff.1 h
  have h1 := vclean_len g.vec
  have h2 := tnorm_len g.turns
  exact ⟨by show g.room.length < _; omega, by show (vclean g.vec).length < _; omega, by show (tnorm g.turns).length < _; omega, by show g.b.length < _; omega⟩
theorem enc_short {V : List UInt8 → Bool} {g : Msg} (h : g.Ok V) : g.enc.length < 100000000 := by
  have v := vclean_canon g.vec
  have t := (tnorm_canon g.turns).1
  obtain ⟨K, c, n, room, vec, turns, b⟩ := g
  simp only at v t
  have q4 := encTs_len (tnorm turns) t
  unfold Msg.Ok at h
  simp only at h
  rcases h with ⟨hk, rfl, rfl, h4, h5, h6⟩ | ⟨hk, rfl, rfl, rfl, rfl, h6, h7, h8⟩ | ⟨hk, rfl, rfl, rfl, rfl, rfl, h6, h7⟩
  · have q3 := encV_len v h4
    have q6 := encU_len10 (n := (tnorm turns).length) (by omega)
    rcases h6 with ⟨rfl, g1, g2, _, g4, _⟩ | ⟨rfl, rfl, rfl⟩
    · have q1 := encU_len10 (n := c) (by omega)
      have q2 := encS_len room (by omega)
      simp only [Msg.enc, encTs, if_true, List.length_cons, List.length_append]; omega
    · simp only [Msg.enc, encTs, if_true]
      rw [if_neg (by decide)]
      simp only [List.length_cons, List.length_append]; omega
  · have q1 := encU_len10 (n := n) (by omega)
    have q5 := encS_len b (by omega)
    rcases hk with rfl | rfl
    · show (UInt8.ofNat 3 :: (encU n ++ encS b)).length < _
      simp only [List.length_cons, List.length_append]; omega
    · show (UInt8.ofNat 5 :: encS b).length < _
      simp only [List.length_cons]; omega
  · have q1 := encU_len10 (n := n) (by omega)
    rcases hk with rfl | rfl
    · show (UInt8.ofNat 4 :: encU n).length < _
      simp only [List.length_cons]; omega
    · show (UInt8.ofNat 6 :: encU n).length < _
      simp only [List.length_cons]; omega
theorem same_self (g : Msg) : g.same g = true := Msg.same_iff.2 rfl
theorem mC_one {m0 m : World} {M0 X : List Nat} {H : List Asn} {g : Msg} {vv tv bv : Value} (hS : Tr m0 M0 X m H) (h1 : roA 2 vv (g.vec.flatMap cC) ∈ H) (h2 : roA 4 tv (g.turns.flatMap tC) ∈ H) (h3 : roA 1 bv (u8s g.b) ∈ H) : (mC g vv tv bv).all Value.oneCell' = true := by
  simp only [mC, List.all_cons, List.all_nil, (hS.mem h1).1.one, (hS.mem h2).1.one, (hS.mem h3).1.one]
  rfl
def TrueP (r : Value) (H : List Asn) : Prop := r = .bool true ∧ H = []
set_option maxRecDepth 20000 in
theorem msgWrites_s (g : Msg) (vv tv bv : Value) (hcl : g.c < 18446744073709551616) (hnl : g.n < 18446744073709551616) : DoS Tryz.prog 3 [.agg (mC g vv tv bv).toArray] (tabA :: mR g vv tv bv) TrueP := by
  intro m0 X hS
  obtain ⟨PP, hP⟩ : ∃ PP, ofps (tabA :: mR g vv tv bv) = PP := ⟨_, rfl⟩
  rw [hP] at hS ⊢
  clear hP
  simp only [mR] at hS
  have hS := hS.nilRo 1 (by omega)
  refine FnE.enter ⟨_, Tryz.func3, by kernel_rfl, by kernel_rfl⟩ Tryz.func3 rfl rfl ?_
  (with_reducible repeat (first | refine WP.S1 ?_ | refine WP.B1 ?_ | refine WP.R1 ?_))
  refine RL.boxS hS rfl rfl rfl ?_; (try clear hS); intro b1 m hS; refine ⟨_, rfl, ?_⟩
  refine RL.A1 T_ok rfl ?_
  refine RL.N1 ?_; (with_reducible repeat (first | refine QN.B1 ?_ | refine QN.N1 ?_ | refine WP.S1 ?_ | refine WP.B1 ?_ | refine WP.R1 ?_))
  refine RL.A1 T_ok rfl ?_
  refine RL.callM (fi := []) (ca := []) hS known_s rfl rfl rfl rfl (by repeat (first | with_reducible exact Sels.nil | apply Sels.ro (by with_reducible repeat (first | exact zS .. | apply zO)) (by rfl) | apply Sels.own (by with_reducible repeat (first | exact Sel.head | apply Sel.tail)))) ?_
  (try clear hS); rintro _ m _ ⟨rfl, rfl⟩ hS; (try simp only [zN] at hS); refine ⟨_, rfl, ?_⟩
  refine RL.A1 T_ok rfl ?_
  refine RL.N1 ?_; (with_reducible repeat (first | refine QN.B1 ?_ | refine QN.N1 ?_ | refine WP.S1 ?_ | refine WP.B1 ?_ | refine WP.R1 ?_))
  refine WP.condF rfl ?_
  refine WP.skip ?_; (with_reducible repeat (first | refine QN.B1 ?_ | refine QN.N1 ?_ | refine WP.S1 ?_ | refine WP.B1 ?_ | refine WP.R1 ?_))
  refine RL.lsM T_ok hS (cs := mC g vv tv bv) (vs := mC g vv tv bv) rfl rfl rfl (by with_reducible repeat (first | exact zS .. | apply zO)) rfl rfl rfl ?_
  refine RL.callM (fi := []) (ca := []) hS (light_s g vv tv bv) rfl rfl rfl rfl (by unfold mR; exact (by repeat (first | with_reducible exact Sels.nil | apply Sels.ro (by repeat (first | exact zS .. | with_reducible apply zO)) (by rfl) | apply Sels.own (by repeat (first | exact Sel.head | with_reducible apply Sel.tail))))) ?_
  (try clear hS); rintro _ m _ ⟨rfl, rfl⟩ hS; (try simp only [zN] at hS); refine ⟨_, rfl, ?_⟩
  cases hL : Msg.light g
  · repeat (first | refine RL.autoP T_ok rfl rfl ?_ | refine RL.loadM T_ok hS rfl rfl rfl (by with_reducible repeat (first | exact zS .. | apply zO)) (by rfl) (by rfl) ?_ | refine RL.lsM T_ok hS rfl rfl rfl (by with_reducible repeat (first | exact zS .. | apply zO)) (by rfl) (by rfl) (by rfl) ?_ | (refine RL.N1 ?_; (with_reducible repeat (first | refine QN.B1 ?_ | refine QN.N1 ?_))) | with_reducible refine WP.S1 ?_ | with_reducible refine WP.B1 ?_ | with_reducible refine WP.R1 ?_ | (refine WP.skip ?_; (with_reducible repeat (first | refine QN.B1 ?_ | refine QN.N1 ?_))) | refine WP.condT rfl ?_ | refine WP.condF rfl ?_)
    refine WP.ret ?_; (with_reducible repeat (first | refine QN.tr ?_ | refine QN.br ?_))
    exact QN.ret1 rfl rfl ⟨_, rfl, [], ⟨rfl, rfl⟩, Tr.drop (H := []) hS⟩
  refine RL.A1 T_ok rfl ?_
  refine RL.N1 ?_; (with_reducible repeat (first | refine QN.B1 ?_ | refine QN.N1 ?_ | refine WP.S1 ?_ | refine WP.B1 ?_ | refine WP.R1 ?_))
  refine WP.condF rfl ?_
  refine WP.skip ?_; (with_reducible repeat (first | refine QN.B1 ?_ | refine QN.N1 ?_ | refine WP.S1 ?_ | refine WP.B1 ?_ | refine WP.R1 ?_))
  have hLi := light_iff.1 hL
  refine RL.lsM T_ok hS (cs := mC g vv tv bv) (vs := mC g vv tv bv) rfl rfl rfl (by with_reducible repeat (first | exact zS .. | apply zO)) rfl rfl rfl ?_
  refine RL.callM (fi := []) (ca := []) hS (mwrite_s g vv tv bv (light_fit hL)) rfl rfl rfl rfl (by unfold mR; exact (by repeat (first | with_reducible exact Sels.nil | apply Sels.ro (by repeat (first | exact zS .. | with_reducible apply zO)) (by rfl) | apply Sels.own (by repeat (first | exact Sel.head | with_reducible apply Sel.tail))))) ?_
  (try clear hS)
  rintro r m H' hW hS
  cases hok : g.ok txt with
  | false =>
    rcases hW with ⟨h, _⟩ | ⟨_, rfl, rfl⟩
    · rw [hok] at h; cases h
    refine ⟨_, rfl, ?_⟩
    simp only [List.nil_append] at hS
    refine RL.A1 T_ok rfl ?_
    refine RL.N1 ?_; (with_reducible repeat (first | refine QN.B1 ?_ | refine QN.N1 ?_ | refine WP.S1 ?_ | refine WP.B1 ?_ | refine WP.R1 ?_))
    refine RL.lsM T_ok hS (cs := mC g vv tv bv) (vs := mC g vv tv bv) rfl rfl rfl (by with_reducible repeat (first | exact zS .. | apply zO)) rfl rfl rfl ?_
    refine RL.callM (fi := []) (ca := []) hS (refwrite_s g vv tv bv (by omega) (by omega) (by omega) (by omega) hcl hnl) rfl rfl rfl rfl (by unfold mR; exact (by repeat (first | with_reducible exact Sels.nil | apply Sels.ro (by repeat (first | exact zS .. | with_reducible apply zO)) (by rfl) | apply Sels.own (by repeat (first | exact Sel.head | with_reducible apply Sel.tail))))) ?_
    (try clear hS)
    rintro r m H' hW hS
    rcases hW with ⟨h, _⟩ | ⟨_, rfl, rfl⟩
    · rw [hok] at h; cases h
    refine ⟨_, rfl, ?_⟩
    simp only [List.nil_append] at hS
    refine RL.A1 T_ok rfl ?_
    refine RL.N1 ?_; (with_reducible repeat (first | refine QN.B1 ?_ | refine QN.N1 ?_ | refine WP.S1 ?_ | refine WP.B1 ?_ | refine WP.R1 ?_))
    refine RL.A1 T_ok rfl ?_
    refine RL.callM (fi := []) (ca := []) hS (hbytes_s (.slice none 0 0) (.slice none 0 0) [] []) rfl rfl rfl rfl (by repeat (first | with_reducible exact Sels.nil | apply Sels.ro (by repeat (first | exact zS .. | with_reducible apply zO)) (by rfl) | apply Sels.own (by repeat (first | exact Sel.head | with_reducible apply Sel.tail)))) ?_
    (try clear hS); rintro _ m _ ⟨rfl, rfl⟩ hS; (try simp only [zN] at hS); refine ⟨_, rfl, ?_⟩
    repeat (first | refine RL.autoP T_ok rfl rfl ?_ | refine RL.loadM T_ok hS rfl rfl rfl (by with_reducible repeat (first | exact zS .. | apply zO)) (by rfl) (by rfl) ?_ | refine RL.lsM T_ok hS rfl rfl rfl (by with_reducible repeat (first | exact zS .. | apply zO)) (by rfl) (by rfl) (by rfl) ?_ | (refine RL.N1 ?_; (with_reducible repeat (first | refine QN.B1 ?_ | refine QN.N1 ?_))) | with_reducible refine WP.S1 ?_ | with_reducible refine WP.B1 ?_ | with_reducible refine WP.R1 ?_ | (refine WP.skip ?_; (with_reducible repeat (first | refine QN.B1 ?_ | refine QN.N1 ?_))) | refine WP.condT rfl ?_ | refine WP.condF rfl ?_)
    refine WP.ret ?_; (with_reducible repeat (first | refine QN.tr ?_ | refine QN.br ?_))
    exact QN.ret1 rfl rfl ⟨_, rfl, [], ⟨rfl, rfl⟩, Tr.drop (H := []) hS⟩
  | true =>
    rcases hW with ⟨_, w1, S1, rfl, rfl⟩ | ⟨h, _⟩
    rotate_left
    · rw [hok] at h; cases h
    refine ⟨_, rfl, ?_⟩
    have hS := Tr.freeze hS (by omega)
    simp only [List.append_eq, List.nil_append] at hS
    have hOk := ok_iff.1 hok
    have hel := enc_len hOk (light_fit hL)
    refine RL.A1 T_ok rfl ?_
    refine RL.N1 ?_; (with_reducible repeat (first | refine QN.B1 ?_ | refine QN.N1 ?_ | refine WP.S1 ?_ | refine WP.B1 ?_ | refine WP.R1 ?_))
    refine RL.lsM T_ok hS (cs := mC g vv tv bv) (vs := mC g vv tv bv) rfl rfl rfl (by with_reducible repeat (first | exact zS .. | apply zO)) rfl rfl rfl ?_
    refine RL.callM (fi := []) (ca := []) hS (refwrite_s g vv tv bv (by omega) (by omega) (by omega) (by omega) hcl hnl) rfl rfl rfl rfl (by unfold mR; exact (by repeat (first | with_reducible exact Sels.nil | apply Sels.ro (by repeat (first | exact zS .. | with_reducible apply zO)) (by rfl) | apply Sels.own (by repeat (first | exact Sel.head | with_reducible apply Sel.tail))))) ?_
    (try clear hS)
    rintro r m H' hW hS
    rcases hW with ⟨_, w2, S2, rfl, rfl⟩ | ⟨h, _⟩
    rotate_left
    · rw [hok] at h; cases h
    refine ⟨_, rfl, ?_⟩
    have hS := Tr.freeze hS (by omega)
    simp only [List.append_eq, List.nil_append] at hS
    refine RL.A1 T_ok rfl ?_
    refine RL.N1 ?_; (with_reducible repeat (first | refine QN.B1 ?_ | refine QN.N1 ?_ | refine WP.S1 ?_ | refine WP.B1 ?_ | refine WP.R1 ?_))
    refine RL.A1 T_ok rfl ?_
    refine RL.callM (fi := []) (ca := []) hS (hbytes_s w1 w2 g.enc g.enc) rfl rfl rfl rfl (by repeat (first | with_reducible exact Sels.nil | apply Sels.ro (by with_reducible repeat (first | exact zS .. | apply zO)) (by rfl) | apply Sels.own (by with_reducible repeat (first | exact Sel.head | apply Sel.tail)))) ?_
    (try clear hS); rintro _ m _ ⟨rfl, rfl⟩ hS; (try simp only [zN] at hS); refine ⟨_, rfl, ?_⟩
    refine RL.eqv (v' := .bool true) (congrArg _ (decide_eq_true rfl)) ?_
    refine RL.A1 T_ok rfl ?_
    refine RL.N1 ?_; (with_reducible repeat (first | refine QN.B1 ?_ | refine QN.N1 ?_ | refine WP.S1 ?_ | refine WP.B1 ?_ | refine WP.R1 ?_))
    refine WP.condF rfl ?_
    refine WP.skip ?_; (with_reducible repeat (first | refine QN.B1 ?_ | refine QN.N1 ?_ | refine WP.S1 ?_ | refine WP.B1 ?_ | refine WP.R1 ?_))
    refine RL.A1 T_ok rfl ?_
    refine RL.N1 ?_; (with_reducible repeat (first | refine QN.B1 ?_ | refine QN.N1 ?_ | refine WP.S1 ?_ | refine WP.B1 ?_ | refine WP.R1 ?_))
    refine WP.condF rfl ?_
    refine WP.skip ?_; (with_reducible repeat (first | refine QN.B1 ?_ | refine QN.N1 ?_ | refine WP.S1 ?_ | refine WP.B1 ?_ | refine WP.R1 ?_))
    refine RL.A1 T_ok rfl ?_
    refine RL.callM (fi := []) (ca := []) hS (msgread_s w1 g.enc (enc_short hOk)) rfl rfl rfl rfl (by repeat (first | with_reducible exact Sels.nil | apply Sels.ro (by with_reducible repeat (first | exact zS .. | apply zO)) (by rfl) | apply Sels.own (by with_reducible repeat (first | exact Sel.head | apply Sel.tail)))) ?_
    (try clear hS)
    rw [read_back hOk]
    rintro r m H' ⟨v7, t7, b7v, rfl, rfl⟩ hS
    refine ⟨_, rfl, ?_⟩
    simp only [mR, List.nil_append, List.cons_append] at hS
    refine RL.A1 T_ok rfl ?_
    refine RL.allocS T_ok rfl hS rfl rfl ?_; (try clear hS); intro b7 m hS; refine ⟨_, rfl, ?_⟩
    refine RL.ssM T_ok hS (vs := mC g.clean v7 t7 b7v) rfl rfl rfl rfl rfl (mC_one hS (by simp) (by simp) (by simp)) (by rfl) (by with_reducible repeat (first | exact Rep.head | apply Rep.tail)) (by rfl) ?_
    (try clear hS); intro m hS
    change Tr m0 PP X m (blkA b7 27 (mC g.clean v7 t7 b7v) :: _) at hS
    refine RL.A1 T_ok rfl ?_
    refine RL.N1 ?_
    (with_reducible repeat (first | refine QN.B1 ?_ | refine QN.N1 ?_))
    refine WP.S1 ?_
    refine WP.drawS [blkA b1 27 (mC g vv tv bv)] [7, 8, 9] hS (by repeat (first | exact AllIn.nil | refine AllIn.cons (by repeat (first | with_reducible exact zS .. | exact zS .. | with_reducible apply zO)) ?_)) (by kernel_rfl) (by with_reducible repeat (first | exact PanicOk.body | refine PanicOk.then_ ?_ | refine PanicOk.block_ ?_)) (fun hQ => ?_)
    refine RH.pure T_ok hQ [0] (by kernel_rfl) rfl ?_
    refine RH.loadM T_ok hQ 1 rfl (by kernel_rfl) rfl rfl rfl (by repeat (first | exact zS .. | with_reducible apply zO)) (by rfl) (by rfl) ?_
    refine RH.pure T_ok hQ [3] (by kernel_rfl) rfl ?_
    refine RH.loadM T_ok hQ 4 rfl (by kernel_rfl) rfl rfl rfl (by repeat (first | exact zS .. | with_reducible apply zO)) (by rfl) (by rfl) ?_
    refine RH.only 2 rfl (by kernel_rfl) (fun _ => ?_)
    refine RL.callM (fi := []) (ca := []) hS (refvclean_s vv g.vec (by have := light_iff.1 hL; omega)) rfl rfl rfl rfl (by repeat (first | with_reducible exact Sels.nil | apply Sels.ro (by with_reducible repeat (first | exact zS .. | apply zO)) (by rfl) | apply Sels.own (by with_reducible repeat (first | exact Sel.head | apply Sel.tail)))) ?_
    rintro r1 m _ ⟨S1, rfl⟩ hS
    simp only [zC, zN] at hS
    obtain ⟨A1, c1, rfl, _⟩ := hS.shape
    have hS := Tr.freeze hS (by omega)
    refine ⟨_, rfl, ?_⟩
    refine RL.N1 (RH.contM hS (by repeat (first | exact AllIn.nil | refine AllIn.cons (by repeat (first | with_reducible exact zS .. | exact zS .. | with_reducible apply zO)) ?_)) ?_)
    refine RH.pure T_ok hQ [6] (by kernel_rfl) rfl ?_
    refine RH.only 5 rfl (by kernel_rfl) (fun _ => ?_)
    refine RL.callM (fi := []) (ca := []) hS (refturns_s tv g.turns (by
      have h1 := (light_iff.1 hL).2.2.1
      have := Nat.mul_le_mul h1 (show 2 * g.turns.length ≤ 120 by omega)
      omega)) rfl rfl rfl rfl (by repeat (first | with_reducible exact Sels.nil | apply Sels.ro (by with_reducible repeat (first | exact zS .. | apply zO)) (by rfl) | apply Sels.own (by with_reducible repeat (first | exact Sel.head | apply Sel.tail)))) ?_
    rintro r2 m _ ⟨S2, rfl⟩ hS
    simp only [zC, zN] at hS
    obtain ⟨A2, c2, rfl, _⟩ := hS.shape
    have hS := Tr.freeze hS (by omega)
    refine ⟨_, rfl, ?_⟩
    refine RL.N1 (RH.contM hS (by repeat (first | exact AllIn.nil | refine AllIn.cons (by repeat (first | with_reducible exact zS .. | exact zS .. | with_reducible apply zO)) ?_)) ?_)
    refine RH.only 7 rfl (by kernel_rfl) (fun _ => ?_)
    refine RL.storeM T_ok hS rfl rfl rfl rfl (by rfl) (by rfl) (by with_reducible repeat (first | exact Rep.head | apply Rep.tail)) (by rfl) ?_; (try clear hS); intro m hS
    refine RL.N1 (RF.cont (by kernel_rfl) ?_)
    refine RF.only 8 rfl (by kernel_rfl) ?_
    refine RL.A1 T_ok rfl ?_
    refine RL.N1 (RF.cont (by kernel_rfl) ?_)
    refine RF.only 9 rfl (by kernel_rfl) ?_
    refine RL.storeM T_ok hS rfl rfl rfl rfl (by rfl) (by rfl) (by with_reducible repeat (first | exact Rep.head | apply Rep.tail)) (by rfl) ?_; (try clear hS); intro m hS
    refine RL.N1 (RF.last (by kernel_rfl) ?_)
    (with_reducible repeat (first | refine QN.B1 ?_ | refine QN.N1 ?_))
    have hS := hS.sels (Pre := [blkA b1 27 (mC g.clean (.slice A1 (vclean g.vec).length c1) (.slice A2 (tnorm g.turns).length c2) bv), roA 2 (.slice A1 (vclean g.vec).length c1) (g.clean.vec.flatMap cC), roA 4 (.slice A2 (tnorm g.turns).length c2) (g.clean.turns.flatMap tC), roA 1 bv (u8s g.clean.b)]) (by repeat (first | with_reducible exact Sels.nil | apply Sels.ro (by repeat (first | exact zS .. | with_reducible apply zO)) (by rfl) | apply Sels.own (by repeat (first | exact Sel.head | with_reducible apply Sel.tail))))
    simp only [List.nil_append, List.cons_append] at hS
    (with_reducible repeat (first | refine WP.S1 ?_ | refine WP.B1 ?_ | refine WP.R1 ?_))
    refine RL.lsM T_ok hS (cs := mC g.clean v7 t7 b7v) (vs := mC g.clean v7 t7 b7v) rfl rfl rfl (by with_reducible repeat (first | exact zS .. | apply zO)) rfl rfl rfl ?_
    refine RL.callM (fi := []) (ca := []) hS (mwrite_s g.clean v7 t7 b7v (light_cfit hL)) rfl rfl rfl rfl (by unfold mR; exact (by repeat (first | with_reducible exact Sels.nil | apply Sels.ro (by repeat (first | exact zS .. | with_reducible apply zO)) (by rfl) | apply Sels.own (by repeat (first | exact Sel.head | with_reducible apply Sel.tail))))) ?_
    (try clear hS)
    rintro r m H' hW hS
    rcases hW with ⟨_, w3, S3, rfl, rfl⟩ | ⟨h, _⟩
    rotate_left
    · rw [ok_iff.2 hOk.clean] at h; cases h
    refine ⟨_, rfl, ?_⟩
    have hS := Tr.freeze hS (by omega)
    simp only [List.append_eq, List.nil_append] at hS
    refine RL.A1 T_ok rfl ?_
    refine RL.N1 ?_; (with_reducible repeat (first | refine QN.B1 ?_ | refine QN.N1 ?_ | refine WP.S1 ?_ | refine WP.B1 ?_ | refine WP.R1 ?_))
    refine RL.A1 T_ok rfl ?_
    refine RL.lsM T_ok hS (cs := mC g.clean v7 t7 b7v) (vs := mC g.clean v7 t7 b7v) rfl rfl rfl (by with_reducible repeat (first | exact zS .. | apply zO)) rfl rfl rfl ?_
    refine RL.lsM T_ok hS (cs := mC g.clean (.slice A1 (vclean g.vec).length c1) (.slice A2 (tnorm g.turns).length c2) bv) (vs := mC g.clean (.slice A1 (vclean g.vec).length c1) (.slice A2 (tnorm g.turns).length c2) bv) rfl rfl rfl (by with_reducible repeat (first | exact zS .. | apply zO)) rfl rfl rfl ?_
    refine RL.callM (fi := []) (ca := []) hS (lsame_s g.clean g.clean v7 t7 b7v (.slice A1 (vclean g.vec).length c1) (.slice A2 (tnorm g.turns).length c2) bv (light_cfit hL)) rfl rfl rfl rfl (by unfold mR; simp only [zC, zN]; exact (by repeat (first | with_reducible exact Sels.nil | apply Sels.ro (by repeat (first | exact zS .. | with_reducible apply zO)) (by rfl) | apply Sels.own (by repeat (first | exact Sel.head | with_reducible apply Sel.tail))))) ?_
    (try clear hS); rintro _ m _ ⟨rfl, rfl⟩ hS; (try simp only [zN] at hS); refine ⟨_, rfl, ?_⟩
    refine RL.eqv (v' := .bool true) (congrArg _ (same_self _)) ?_
    refine RL.A1 T_ok rfl ?_
    refine RL.callM (fi := []) (ca := []) hS (hbytes_s w3 w1 g.clean.enc g.enc) rfl rfl rfl rfl (by repeat (first | with_reducible exact Sels.nil | apply Sels.ro (by with_reducible repeat (first | exact zS .. | apply zO)) (by rfl) | apply Sels.own (by with_reducible repeat (first | exact Sel.head | apply Sel.tail)))) ?_
    (try clear hS); rintro _ m _ ⟨rfl, rfl⟩ hS; (try simp only [zN] at hS); refine ⟨_, rfl, ?_⟩
    refine RL.eqv (v' := .bool true) (congrArg _ (decide_eq_true (Msg.enc_clean g))) ?_
    refine RL.A1 T_ok rfl ?_
    refine RL.N1 ?_; (with_reducible repeat (first | refine QN.B1 ?_ | refine QN.N1 ?_ | refine WP.S1 ?_ | refine WP.B1 ?_ | refine WP.R1 ?_))
    refine WP.ret ?_; (with_reducible repeat (first | refine QN.tr ?_ | refine QN.br ?_))
    exact QN.ret1 rfl rfl ⟨_, rfl, [], ⟨rfl, rfl⟩, Tr.drop (H := []) hS⟩
end Go.Proofs.YtmjpcaiehfimgaaGreatDoor
end
section
namespace Go.Proofs.YtmjpcaiehfimgaaGreatDoor
open Go.ChangeShapes Go.WideShapes Go.ChangeAt Go.RowKit Go.Ev Go.Ids
theorem mu64_el {H : Type} {enc : TypeId × Value → H} {W : World} {sp : Nat → Bool} {hd : Bool} {base : Nat} (cs : List Value) (n : Nat) (y : DataW H × List MemPlace) (hy : DataW.trod enc Tryz.prog W base sp hd n 22 cs = some y) : ∃ k : Nat, cs = [Value.int .u64 k] ∧ k < 18446744073709551616 := by
  obtain ⟨z, rfl, _, hw⟩ := DataW.trod_int (und 22 rfl rfl) hy
  have hz := int_wf hw (lo := 0) (hi := 18446744073709551615) (by decide) (by decide)
  exact ⟨z.toNat, by rw [Int.toNat_of_nonneg hz.1], by omega⟩
theorem mclock_el {H : Type} {enc : TypeId × Value → H} {W : World} {sp : Nat → Bool} {hd : Bool} {base : Nat} (cs : List Value) (n : Nat) (y : DataW H × List MemPlace) (hl : cs.length = 2) (hy : DataW.trod enc Tryz.prog W base sp hd n 46 cs = some y) : ∃ x : Clk, cs = cC x ∧ True := by
  obtain ⟨n1, ds, _, _, hf⟩ := open_stru (und 46 rfl rfl) hy
  obtain ⟨y0, h0, _⟩ := hf 0 _ _ _ rfl
  obtain ⟨y1, h1, _⟩ := hf 1 _ _ _ rfl
  obtain ⟨k0, e0, _⟩ := mu64_el _ _ _ h0
  obtain ⟨k1, e1, _⟩ := mu64_el _ _ _ h1
  match cs, hl with
  | [a, b], _ =>
    simp at e0 e1
    subst e0; subst e1
    exact ⟨⟨k0, k1⟩, rfl, trivial⟩
theorem mturn_el {H : Type} {enc : TypeId × Value → H} {W : World} {sp : Nat → Bool} {hd : Bool} {base : Nat} (cs : List Value) (n : Nat) (y : DataW H × List MemPlace) (hl : cs.length = 4) (hy : DataW.trod enc Tryz.prog W base sp hd n 57 cs = some y) : ∃ x : Trn, cs = tC x ∧ True := by
  obtain ⟨n1, ds, _, _, hf⟩ := open_stru (und 57 rfl rfl) hy
  obtain ⟨y0, h0, _⟩ := hf 0 _ _ _ rfl
  obtain ⟨y1, h1, _⟩ := hf 1 _ _ _ rfl
  obtain ⟨y2, h2, _⟩ := hf 2 _ _ _ rfl
  obtain ⟨y3, h3, _⟩ := hf 3 _ _ _ rfl
  obtain ⟨k0, e0, _⟩ := mu64_el _ _ _ h0
  obtain ⟨k1, e1, _⟩ := mu64_el _ _ _ h1
  obtain ⟨k2, e2, _⟩ := mu64_el _ _ _ h2
  obtain ⟨k3, e3, _⟩ := mu64_el _ _ _ h3
  match cs, hl with
  | [a, b, c, d], _ =>
    simp at e0 e1 e2 e3
    subst e0; subst e1; subst e2; subst e3
    exact ⟨⟨k0, k1, k2, k3⟩, rfl, trivial⟩
theorem mbyte_el {H : Type} {enc : TypeId × Value → H} {W : World} {sp : Nat → Bool} {hd : Bool} {base : Nat} (cs : List Value) (n : Nat) (y : DataW H × List MemPlace) (hy : DataW.trod enc Tryz.prog W base sp hd n 5 cs = some y) : ∃ b : UInt8, cs = [Value.int .u8 b.toNat] ∧ True := by
  obtain ⟨z, rfl, _, hw⟩ := DataW.trod_int (und 5 rfl rfl) hy
  obtain ⟨b, rfl⟩ := u8_of hw
  exact ⟨b, rfl, trivial⟩
theorem str_of (s : ByteArray) : s = str s.data.toList := by
  cases s; simp [str]
set_option maxRecDepth 100000 in
theorem open_msg {H : Type} {enc : TypeId × Value → H} {W : World} {v : Value} {d : DataW H} {ps : List MemPlace}
    (hfit : Ev.Fit Tryz.prog 27 d) (h : DataW.Trod enc Tryz.prog W 0 (fun _ => true) true 27 v d ps) : ∃ (g : Msg) (vv tv bv : Value), v = .agg (mC g vv tv bv).toArray ∧ g.c < 18446744073709551616 ∧ g.n < 18446744073709551616 ∧ Sl W [] 2 vv (g.vec.flatMap cC) ∧ Sl W [] 4 tv (g.turns.flatMap tC) ∧ Sl W [] 1 bv (u8s g.b) := by
  obtain ⟨fuel, h⟩ := h
  obtain ⟨n1, ds, hds, hl, hf⟩ := open_stru (und 27 rfl rfl) h
  rw [cellsOf 27 rfl (k := 7) rfl] at hl
  have hds : d = .agg ds := hds
  subst hds
  obtain ⟨y0, h0, _⟩ := hf 0 _ _ _ rfl
  obtain ⟨y1, h1, _⟩ := hf 1 _ _ _ rfl
  obtain ⟨y2, h2, _⟩ := hf 2 _ _ _ rfl
  obtain ⟨y3, h3, _⟩ := hf 3 _ _ _ rfl
  obtain ⟨y4, h4, d4⟩ := hf 4 _ _ _ rfl
  obtain ⟨y5, h5, d5⟩ := hf 5 _ _ _ rfl
  obtain ⟨y6, h6, d6⟩ := hf 6 _ _ _ rfl
  have f4 := Fit.field (und 27 rfl rfl) hfit 4 rfl d4
  have f5 := Fit.field (und 27 rfl rfl) hfit 5 rfl d5
  have f6 := Fit.field (und 27 rfl rfl) hfit 6 rfl d6
  obtain ⟨z0, e0, _, _⟩ := DataW.trod_int (und 3 rfl rfl) h0
  obtain ⟨k1, e1, b1⟩ := mu64_el _ _ _ h1
  obtain ⟨k2, e2, b2⟩ := mu64_el _ _ _ h2
  obtain ⟨s3, e3, _, _⟩ := DataW.trod_string (und 9 rfl rfl) h3
  obtain ⟨v4, l4, e4, hS4, _⟩ := open_sl (α := Clk) cC (fun _ => True) (und 23 rfl rfl) (cellsOf 46 rfl rfl) f4 (fun cs n y hl hy _ => mclock_el cs n y hl hy) h4
  obtain ⟨v5, l5, e5, hS5, _⟩ := open_sl (α := Trn) tC (fun _ => True) (und 24 rfl rfl) (cellsOf 57 rfl rfl) f5 (fun cs n y hl hy _ => mturn_el cs n y hl hy) h5
  obtain ⟨v6, l6, e6, hS6, _⟩ := open_sl (α := UInt8) (fun b => [Value.int .u8 b.toNat]) (fun _ => True) (und 25 rfl rfl) (cellsOf 5 rfl rfl) f6 (fun cs n y _ hy _ => mbyte_el cs n y hy) h6
  rw [flatMap_one] at hS6
  have key : v.cells.toList = [.int .i64 z0, .int .u64 k1, .int .u64 k2, .string s3, v4, v5, v6] := by
    clear h h0 h1 h2 h3 h4 h5 h6 hf hS4 hS5 hS6
    generalize v.cells.toList = cs at hl e0 e1 e2 e3 e4 e5 e6
    match cs, hl with
    | [a0, a1, a2, a3, a4, a5, a6], _ =>
      simp at e0 e1 e2 e3 e4 e5 e6
      subst e0; subst e1; subst e2; subst e3; subst e4; subst e5; subst e6
      rfl
  have hv : ∃ c, v = .agg c := by
    cases v
    case agg c => exact ⟨c, rfl⟩
    all_goals (simp [Value.cells] at key)
  obtain ⟨c, rfl⟩ := hv
  refine ⟨⟨z0, k1, k2, s3.data.toList, l4, l5, l6⟩, v4, v5, v6, congrArg Value.agg ?_, b1, b2, hS4, hS5, hS6⟩
  have : c.toList = [.int .i64 z0, .int .u64 k1, .int .u64 k2, .string s3, v4, v5, v6] := key
  apply Array.ext'
  rw [this]
  show _ = [Value.int .i64 z0, .int .u64 k1, .int .u64 k2, .string (str s3.data.toList), v4, v5, v6]
  rw [← str_of]
abbrev laidL : List (String × DataW Unit) := [("unicode/utf8.acceptRanges", Rows.laid_unicode_utf8_acceptRanges), ("unicode/utf8.first", Rows.laid_unicode_utf8_first)]
theorem first_eq : Rows.laid_unicode_utf8_first = Lib.firstData := by kernel_rfl
theorem accept_eq : (Rows.laid_unicode_utf8_acceptRanges : DataW Unit) = Lib.acceptData := by kernel_rfl
theorem tabs_of {W : World} (h : laidMetH Tryz.prog laidL W) : Tabs (World.undrawn W) [] := by
  rw [MakeChecks.laidMetH_plain _ _ _ (by kernel_rfl)] at h
  have h1 : Lib.Utf8Tabs (Tryz.valid_ren.g 3) (Tryz.valid_ren.g 4) W := utf8Tabs_of_readsT (U8Types.of196 Tryz.valid) ⟨by kernel_rfl, by kernel_rfl, by kernel_rfl, by kernel_rfl, by kernel_rfl, by kernel_rfl, by kernel_rfl⟩
    (first_eq ▸ Lib.laidMet.reads h (.tail _ (.head _))) (accept_eq ▸ Lib.laidMet.reads h (.head _))
  exact ⟨⟨fun c hc => h1.1 c hc, fun i hi => h1.2 i hi⟩, by simp, by simp, rfl⟩
theorem met_any (os : Os) (args : Array Value) : laidMetH Tryz.prog laidL ((World.laidAll Tryz.prog os laidL).forCall (fun _ _ => 0) ⟨#[], args, []⟩).memory := by
  rw [MakeChecks.laidMetH_plain _ _ _ (by kernel_rfl)]
  exact laidMet_laidAll _ (by kernel_rfl) (by kernel_rfl)
end Go.Proofs.YtmjpcaiehfimgaaGreatDoor
end
