import Derived.Test.YtmjpcaiehfimgaaGreatDoorMMsgVR7
import Derived.Test.YtmjpcaiehfimgaaGreatDoorRows
import Derived.Lib.LaidU8T
import Derived.Lib.LaidIn
section
namespace Go.Proofs.YtmjpcaiehfimgaaGreatDoor
open Go.RowKit Go.Ev Go.Ids
theorem RL.litM {P : Program} {ops : Array Oper} {Q : Exit → Act → World → Prop} {n : Nat} {e : Env} {D : Fr} {T : Ty} {m0 m : World} {M0 X : List Nat} {H : List Asn} {rest : List Oper} {d : Option Tmp} {t te ty : TypeId} {pos : String} {aft : Array Edge} {g : Option (Nat × Bool)} {r : Row} (hT : T.Ok P) (hS : Tr m0 M0 X m H) {k : Nat} {parts : Array (Nat × Operand)} (xs : List Operand) {us : List Value} (cs : List Value) (he : T.elem t = some (te, r)) (hparts : parts = (opsParts 0 xs).toArray) (hk : xs.length = k) (hne : Nat.blt 0 k = true) (hsm : Nat.ble k 16000 = true)
   (hus : e.evs xs = some us) (hu : ∀ u ∈ us, u.cells.size = r.size) (hcs : us.flatMap (·.cells.toList) = cs) (hg : gd ops e ⟨d, .buildSlice t k parts, ty, pos, aft, g⟩ = some true) (hl : cs.length = k * r.size)
   (h : ∀ b m', Tr m0 M0 X m' (ownA [b] te r.size (.slice (some ⟨b, 0, none⟩) k k) k cs :: H) → ∃ e', putE n d (.slice (some ⟨b, 0, none⟩) k k) e = some e' ∧ RL P ops Q rest n e' D m') :
   RL P ops Q (⟨d, .buildSlice t k parts, ty, pos, aft, g⟩ :: rest) n e D m :=
 RL.buildSlice hT xs cs he hparts hk hne hsm hus hu hcs hg (fun b m' hb hC => h b m' ((hS.alloc hC hb).turn (B := ownA [b] te r.size (.slice (some ⟨b, 0, none⟩) k k) k cs) (fun hP => Own.new hP hl (by have := Nat.le_of_ble_eq_true hsm; unfold maxLen; omega)) (fun _ hk => hk) (by simp [ownA])))
theorem byte_of (K : Int) : ∃ kb : UInt8, IntKind.u8.wrap K = (kb.toNat : Int) := by
 rw [wrap_u8]
 refine ⟨UInt8.ofNat (K % 256).toNat, ?_⟩
 have : (K % 256).toNat < 256 := by omega
 rw [UInt8.toNat_ofNat_of_lt' this]; omega
theorem byte_is {K : Int} {kb : UInt8} (h : IntKind.u8.wrap K = (kb.toNat : Int)) (k : Nat) (hk : k < 256) (hK : K = k) : kb = UInt8.ofNat k := by
 subst hK
 rw [wrap_u8] at h
 refine UInt8.toNat_inj.1 ?_
 rw [UInt8.toNat_ofNat_of_lt' hk]; omega
theorem ok1_iff {c n : Nat} {room b : List UInt8} {vec : List Clk} {turns : List Trn} : Msg.Ok txt ⟨1, c, n, room, vec, turns, b⟩ ↔ (n = 0 ∧ b.length = 0 ∧ (vclean vec).length ≤ 16384 ∧ (tnorm turns).length ≤ 16384) ∧ 1 ≤ c ∧ c ≤ 9007199254740991 ∧ 1 ≤ room.length ∧ room.length ≤ 32 ∧ txt room = true := by
 unfold Msg.Ok
 dsimp only
 constructor
 · rintro (⟨_, h2, rfl, h4, h5, h6⟩ | ⟨h, _⟩ | ⟨h, _⟩)
   · rcases h6 with ⟨_, g1, g2, g3, g4, g5⟩ | ⟨h, _⟩
     · exact ⟨⟨h2, rfl, h4, h5⟩, g1, g2, List.length_pos_iff.2 g3, g4, g5⟩
     · omega
   · omega
   · omega
 · rintro ⟨⟨h2, h3, h4, h5⟩, g1, g2, g3, g4, g5⟩
   exact .inl ⟨.inl rfl, h2, List.length_eq_zero_iff.1 h3, h4, h5, .inl ⟨rfl, g1, g2, List.length_pos_iff.1 g3, g4, g5⟩⟩
theorem ok2_iff {c n : Nat} {room b : List UInt8} {vec : List Clk} {turns : List Trn} : Msg.Ok txt ⟨2, c, n, room, vec, turns, b⟩ ↔ (n = 0 ∧ b.length = 0 ∧ (vclean vec).length ≤ 16384 ∧ (tnorm turns).length ≤ 16384) ∧ c = 0 ∧ room = [] := by
 unfold Msg.Ok
 dsimp only
 constructor
 · rintro (⟨_, h2, rfl, h4, h5, h6⟩ | ⟨h, _⟩ | ⟨h, _⟩)
   · rcases h6 with ⟨h, _⟩ | ⟨_, g1, g2⟩
     · omega
     · exact ⟨⟨h2, rfl, h4, h5⟩, g1, g2⟩
   · omega
   · omega
 · rintro ⟨⟨h2, h3, h4, h5⟩, g1, g2⟩
   exact .inl ⟨.inr rfl, h2, List.length_eq_zero_iff.1 h3, h4, h5, .inr ⟨rfl, g1, g2⟩⟩
theorem ok3_iff {c n : Nat} {room b : List UInt8} {vec : List Clk} {turns : List Trn} : Msg.Ok txt ⟨3, c, n, room, vec, turns, b⟩ ↔ vec.length + turns.length = 0 ∧ c = 0 ∧ room = [] ∧ b.length ≤ 1048576 ∧ n ≤ 9007199254740991 := by
 unfold Msg.Ok
 dsimp only
 constructor
 · rintro (⟨h, _⟩ | ⟨_, g1, g2, rfl, rfl, g5, g6, _⟩ | ⟨h, _⟩)
   · omega
   · exact ⟨rfl, g1, g2, g5, g6⟩
   · omega
 · rintro ⟨h, g1, g2, g5, g6⟩
   exact .inr (.inl ⟨.inl rfl, g1, g2, List.length_eq_zero_iff.1 (by omega), List.length_eq_zero_iff.1 (by omega), g5, g6, fun h => by omega⟩)
theorem ok5_iff {c n : Nat} {room b : List UInt8} {vec : List Clk} {turns : List Trn} : Msg.Ok txt ⟨5, c, n, room, vec, turns, b⟩ ↔ (vec.length + turns.length = 0 ∧ c = 0 ∧ room = [] ∧ b.length ≤ 1048576 ∧ n ≤ 9007199254740991) ∧ n = 0 := by
 unfold Msg.Ok
 dsimp only
 constructor
 · rintro (⟨h, _⟩ | ⟨_, g1, g2, rfl, rfl, g5, g6, g7⟩ | ⟨h, _⟩)
   · omega
   · exact ⟨⟨rfl, g1, g2, g5, g6⟩, g7 rfl⟩
   · omega
 · rintro ⟨⟨h, g1, g2, g5, g6⟩, g7⟩
   exact .inr (.inl ⟨.inr rfl, g1, g2, List.length_eq_zero_iff.1 (by omega), List.length_eq_zero_iff.1 (by omega), g5, g6, fun _ => g7⟩)
theorem ok46_iff {K : Int} {c n : Nat} {room b : List UInt8} {vec : List Clk} {turns : List Trn} (hK : K = 4 ∨ K = 6) : Msg.Ok txt ⟨K, c, n, room, vec, turns, b⟩ ↔ vec.length + turns.length = 0 ∧ c = 0 ∧ room = [] ∧ b.length = 0 ∧ 1 ≤ n ∧ n ≤ 9007199254740991 := by
 unfold Msg.Ok
 dsimp only
 constructor
 · rintro (⟨h, _⟩ | ⟨h, _⟩ | ⟨_, g1, g2, rfl, rfl, rfl, g6, g7⟩)
   · omega
   · omega
   · exact ⟨rfl, g1, g2, rfl, g6, g7⟩
 · rintro ⟨h, g1, g2, g5, g6, g7⟩
   exact .inr (.inr ⟨hK, g1, g2, List.length_eq_zero_iff.1 (by omega), List.length_eq_zero_iff.1 (by omega), List.length_eq_zero_iff.1 g5, g6, g7⟩)
theorem ok0_iff {K : Int} {c n : Nat} {room b : List UInt8} {vec : List Clk} {turns : List Trn} (h1 : K ≠ 1) (h2 : K ≠ 2) (h3 : K ≠ 3) (h4 : K ≠ 4) (h5 : K ≠ 5) (h6 : K ≠ 6) : ¬ Msg.Ok txt ⟨K, c, n, room, vec, turns, b⟩ := by
 unfold Msg.Ok
 dsimp only
 rintro (⟨h, _⟩ | ⟨h, _⟩ | ⟨h, _⟩) <;> omega
set_option maxRecDepth 20000 in
theorem refwrite_s (g : Msg) (vv tv bv : Value) (hroom : g.room.length ≤ 5000) (hvec : g.vec.length ≤ 16384) (hturns : g.turns.length ≤ 5000) (hb : g.b.length ≤ 5000) (hcl : g.c < 18446744073709551616) (hnl : g.n < 18446744073709551616) : DoS Tryz.prog 9 [.agg (mC g vv tv bv).toArray] (mR g vv tv bv) (WriteP g) := by
 intro m0 X hS
 obtain ⟨K, c, n, room, vec, turns, b⟩ := g
 simp only at hroom hvec hturns hb hcl hnl
 obtain ⟨PP, hP⟩ : ∃ PP, ofps (mR ⟨K, c, n, room, vec, turns, b⟩ vv tv bv) = PP := ⟨_, rfl⟩
 rw [hP] at hS ⊢
 clear hP
 have hS : Tr m0 PP X m0 [roA 2 vv (vec.flatMap cC), roA 4 tv (turns.flatMap tC), roA 1 bv (u8s b)] := hS
 obtain ⟨vA, vc, rfl, _, _⟩ := Sl.shape (n := vec.length) (hS.mem (A := roA 2 vv (vec.flatMap cC)) (by simp)).1 (csC_len _) (by omega)
 obtain ⟨tA, tc, rfl, _, _⟩ := Sl.shape (n := turns.length) (hS.mem (A := roA 4 tv (turns.flatMap tC)) (by simp)).1 (tsC_len _) (by omega)
 obtain ⟨bA, bc, rfl, _, _⟩ := Sl.shape (n := b.length) (hS.mem (A := roA 1 bv (u8s b)) (by simp)).1 (by simp [u8s]) (by omega)
 have hvl := vclean_len vec
 have htl := tnorm_len turns
 have htt : turns.length * (2 * turns.length) < 100000000 := by
   have := Nat.mul_le_mul hturns (show 2 * turns.length ≤ 10000 by omega)
   omega
 have hvc := vclean_canon vec
 have htc := (tnorm_canon turns).1
 refine FnE.enter ⟨_, Tryz.func9, by kernel_rfl, by kernel_rfl⟩ Tryz.func9 rfl rfl ?_
 (with_reducible repeat (first | refine WP.S1 ?_ | refine WP.B1 ?_ | refine WP.R1 ?_))
 refine RL.boxS hS rfl rfl rfl ?_; (try clear hS); intro b1 m hS; refine ⟨_, rfl, ?_⟩
 dsimp only [mC] at hS
 refine RL.A1 T_ok rfl ?_
 refine RL.N1 ?_; (with_reducible repeat (first | refine QN.B1 ?_ | refine QN.N1 ?_ | refine WP.S1 ?_ | refine WP.B1 ?_ | refine WP.R1 ?_))
 refine WP.drawS [blkA b1 27 [.int .i64 K, .int .u64 c, .int .u64 n, .string (str room), .slice vA vec.length vc, .slice tA turns.length tc, .slice bA b.length bc]] [] hS (by repeat (first | exact AllIn.nil | refine AllIn.cons (by repeat (first | with_reducible exact zS .. | exact zS .. | with_reducible apply zO)) ?_)) (by kernel_rfl) (by with_reducible repeat (first | exact PanicOk.body | refine PanicOk.then_ ?_ | refine PanicOk.block_ ?_)) (fun hQ => ?_)
 refine RH.pure T_ok hQ [0] (by kernel_rfl) rfl ?_
 refine RH.loadM T_ok hQ 1 rfl (by kernel_rfl) rfl rfl rfl (by with_reducible repeat (first | exact zS .. | apply zO)) (by rfl) (by rfl) ?_
 refine RH.pure T_ok hQ [3] (by kernel_rfl) rfl ?_
 refine RH.loadM T_ok hQ 4 rfl (by kernel_rfl) rfl rfl rfl (by with_reducible repeat (first | exact zS .. | apply zO)) (by rfl) (by rfl) ?_
 refine RH.only 2 rfl (by kernel_rfl) (fun _ => ?_)
 refine RL.callM (fi := []) (ca := []) hS (refvclean_s _ vec (by omega)) rfl rfl rfl rfl (by repeat (first | exact Sels.nil | apply Sels.ro (by with_reducible repeat (first | exact zS .. | apply zO)) (by rfl) | apply Sels.own (by with_reducible repeat (first | exact Sel.head | apply Sel.tail)))) ?_
 rintro r1 m _ ⟨S1, rfl⟩ hS
 simp only [zC, zN] at hS
 obtain ⟨A1, c1, rfl, _⟩ := hS.shape
 have hS := Tr.freeze hS (by omega)
 refine ⟨_, rfl, ?_⟩
 refine RL.N1 (RH.contM hS (by repeat (first | exact AllIn.nil | refine AllIn.cons (by repeat (first | with_reducible exact zS .. | exact zS .. | with_reducible apply zO)) ?_)) ?_)
 refine RH.only 5 rfl (by kernel_rfl) (fun _ => ?_)
 refine RL.callM (fi := []) (ca := []) hS (refturns_s _ turns htt) rfl rfl rfl rfl (by repeat (first | exact Sels.nil | apply Sels.ro (by with_reducible repeat (first | exact zS .. | apply zO)) (by rfl) | apply Sels.own (by with_reducible repeat (first | exact Sel.head | apply Sel.tail)))) ?_
 rintro r2 m _ ⟨S2, rfl⟩ hS
 simp only [zC, zN] at hS
 obtain ⟨A2, c2, rfl, _⟩ := hS.shape
 have hS := Tr.freeze hS (by omega)
 refine ⟨_, rfl, ?_⟩
 refine RL.N1 (RH.contM hS (by repeat (first | exact AllIn.nil | refine AllIn.cons (by repeat (first | with_reducible exact zS .. | exact zS .. | with_reducible apply zO)) ?_)) ?_)
 refine RH.pure T_ok hQ [6, 7] (by kernel_rfl) rfl ?_
 refine RH.done (by kernel_rfl) (fun _ => ?_)
 (with_reducible repeat (first | refine QN.B1 ?_ | refine QN.N1 ?_))
 (with_reducible repeat (first | refine WP.S1 ?_ | refine WP.B1 ?_ | refine WP.R1 ?_))
 refine RL.pure T_ok 1 rfl ?_
 refine RL.loadM T_ok hS rfl rfl rfl (by with_reducible repeat (first | exact zS .. | apply zO)) (by rfl) (by rfl) ?_
 refine RL.pure T_ok 2 rfl ?_
 refine RL.loadM T_ok hS rfl rfl rfl (by with_reducible repeat (first | exact zS .. | apply zO)) (by rfl) (by rfl) ?_
 refine RL.pure T_ok 2 rfl ?_
 refine RL.eqv (v' := .int .i64 ((vec.length + turns.length : Nat) : Int)) (zV (by rw [wrap_i64_in _ (by omega) (by omega)]; omega)) ?_
 refine RL.pure T_ok 1 rfl ?_
 refine RL.eqv (v' := .bool (decide (0 < vec.length + turns.length))) (zV (decide_eq_decide.2 (by omega))) ?_
 refine RL.A1 T_ok rfl ?_
 refine RL.N1 ?_; (with_reducible repeat (first | refine QN.B1 ?_ | refine QN.N1 ?_ | refine WP.S1 ?_ | refine WP.B1 ?_ | refine WP.R1 ?_))
 refine RL.pure T_ok 1 rfl ?_
 refine RL.loadM T_ok hS rfl rfl rfl (by with_reducible repeat (first | exact zS .. | apply zO)) (by rfl) (by rfl) ?_
 refine RL.pure T_ok 1 rfl ?_
 obtain ⟨kb, hkw⟩ := byte_of K
 refine RL.eqv (v' := .int .u8 kb.toNat) (zV hkw) ?_
 refine RL.litM T_ok hS [.tmp 25] (us := [.int .u8 kb.toNat]) (u8s [kb]) rfl rfl rfl rfl rfl rfl (by simp [Value.cells]) rfl rfl rfl ?_
 clear hS
 intro b2 m hS
 refine ⟨_, rfl, ?_⟩
 refine RL.A1 T_ok rfl ?_
 refine RL.N1 ?_; (with_reducible repeat (first | refine QN.B1 ?_ | refine QN.N1 ?_ | refine WP.S1 ?_ | refine WP.B1 ?_ | refine WP.R1 ?_))
 refine RL.A1 T_ok rfl ?_
 refine RL.N1 ?_; (with_reducible repeat (first | refine QN.B1 ?_ | refine QN.N1 ?_))
 refine WP.cut (X := Bool × Value × List Nat × List UInt8) (fun q => [(7, q.2.1), (8, .bool q.1)]) (fun q m => (q.1 = true ↔ Msg.Ok txt ⟨K, c, n, room, vec, turns, b⟩) ∧ (q.1 = true → q.2.2.2 = Msg.enc ⟨K, c, n, room, vec, turns, b⟩) ∧ Tr m0 PP X m [ownA q.2.2.1 5 1 q.2.1 q.2.2.2.length (u8s q.2.2.2)]) ?_ ?_
 rotate_left
 · rintro ⟨q, w, S, bs⟩ m ⟨hq, he, hS⟩
   dsimp only at hq he hS ⊢
   cases q
   · repeat (first | refine RL.autoP T_ok rfl rfl ?_ | refine RL.loadM T_ok hS rfl rfl rfl (by with_reducible repeat (first | exact zS .. | apply zO)) (by rfl) (by rfl) ?_ | refine RL.lsM T_ok hS rfl rfl rfl (by with_reducible repeat (first | exact zS .. | apply zO)) (by rfl) (by rfl) (by rfl) ?_ | (refine RL.N1 ?_; (with_reducible repeat (first | refine QN.B1 ?_ | refine QN.N1 ?_))) | with_reducible refine WP.S1 ?_ | with_reducible refine WP.B1 ?_ | with_reducible refine WP.R1 ?_ | (refine WP.skip ?_; (with_reducible repeat (first | refine QN.B1 ?_ | refine QN.N1 ?_))) | refine WP.condT rfl ?_ | refine WP.condF rfl ?_)
     refine WP.ret ?_; (with_reducible repeat (first | refine QN.tr ?_ | refine QN.br ?_))
     exact QN.ret2 rfl rfl rfl ⟨_, rfl, [], .inr ⟨by
       rw [← Bool.not_eq_true, ok_iff]; exact fun h => absurd (hq.2 h) (by decide), rfl, rfl⟩, Tr.drop (H := []) hS⟩
   · obtain rfl := he rfl
     repeat (first | refine RL.autoP T_ok rfl rfl ?_ | refine RL.loadM T_ok hS rfl rfl rfl (by with_reducible repeat (first | exact zS .. | apply zO)) (by rfl) (by rfl) ?_ | refine RL.lsM T_ok hS rfl rfl rfl (by with_reducible repeat (first | exact zS .. | apply zO)) (by rfl) (by rfl) (by rfl) ?_ | (refine RL.N1 ?_; (with_reducible repeat (first | refine QN.B1 ?_ | refine QN.N1 ?_))) | with_reducible refine WP.S1 ?_ | with_reducible refine WP.B1 ?_ | with_reducible refine WP.R1 ?_ | (refine WP.skip ?_; (with_reducible repeat (first | refine QN.B1 ?_ | refine QN.N1 ?_))) | refine WP.condT rfl ?_ | refine WP.condF rfl ?_)
     refine WP.ret ?_; (with_reducible repeat (first | refine QN.tr ?_ | refine QN.br ?_))
     exact QN.ret2 rfl rfl rfl ⟨_, rfl, [_], .inl ⟨ok_iff.2 (hq.1 rfl), w, S, rfl, rfl⟩, hS⟩
 have hS : Tr m0 PP X m [ownA [b2] 5 1 (.slice (some ⟨b2, 0, none⟩) 1 1) ([kb]).length (u8s ([kb])), blkA b1 27 [.int .i64 K, .int .u64 c, .int .u64 n, .string (str room), .slice vA vec.length vc, .slice tA turns.length tc, .slice bA b.length bc], roA 2 (.slice A1 (vclean vec).length c1) ((vclean vec).flatMap cC), roA 4 (.slice A2 (tnorm turns).length c2) ((tnorm turns).flatMap tC), roA 1 (.slice bA b.length bc) (u8s b)] := Tr.drop (H := [_, _, _, _, _]) (hS.sels (by repeat (first | exact Sels.nil | apply Sels.ro (by repeat (first | exact zS .. | with_reducible apply zO)) (by rfl) | apply Sels.own (by repeat (first | exact Sel.head | with_reducible apply Sel.tail)))))
 by_cases k1 : K = 1
 · subst k1
   obtain rfl := byte_is hkw 1 (by omega) rfl
   (with_reducible repeat (first | refine WP.S1 ?_ | refine WP.B1 ?_ | refine WP.R1 ?_))
   refine RL.pure T_ok 1 rfl ?_
   refine RL.loadM T_ok hS rfl rfl rfl (by with_reducible repeat (first | exact zS .. | apply zO)) (by rfl) (by rfl) ?_
   refine RL.N1 ?_; (with_reducible repeat (first | refine QN.B1 ?_ | refine QN.N1 ?_))
   (with_reducible repeat (first | refine WP.S1 ?_ | refine WP.B1 ?_ | refine WP.R1 ?_))
   refine RL.A1 T_ok rfl ?_
   refine RL.N1 ?_; (with_reducible repeat (first | refine QN.B1 ?_ | refine QN.N1 ?_))
   refine WP.condT rfl ?_
   refine WP.skip ?_; (with_reducible repeat (first | refine QN.B1 ?_ | refine QN.N1 ?_))
   refine WP.condT rfl ?_
   refine WP.cut (X := Bool) (fun q => [(1, .pointer (some ⟨b1, 0, none⟩)), (4, .slice A1 (vclean vec).length c1), (5, .slice A2 (tnorm turns).length c2), (6, .bool (decide (0 < vec.length + turns.length))), (7, .slice (some ⟨b2, 0, none⟩) 1 1), (8, .bool q)]) (fun q m => (q = true ↔ n = 0 ∧ b.length = 0 ∧ (vclean vec).length ≤ 16384 ∧ (tnorm turns).length ≤ 16384) ∧ Tr m0 PP X m [ownA [b2] 5 1 (.slice (some ⟨b2, 0, none⟩) 1 1) ([UInt8.ofNat 1]).length (u8s ([UInt8.ofNat 1])), blkA b1 27 [.int .i64 1, .int .u64 c, .int .u64 n, .string (str room), .slice vA vec.length vc, .slice tA turns.length tc, .slice bA b.length bc], roA 2 (.slice A1 (vclean vec).length c1) ((vclean vec).flatMap cC), roA 4 (.slice A2 (tnorm turns).length c2) ((tnorm turns).flatMap tC), roA 1 (.slice bA b.length bc) (u8s b)]) ?_ ?_
   · skip
     (with_reducible repeat (first | refine WP.S1 ?_ | refine WP.B1 ?_ | refine WP.R1 ?_))
     refine RL.pure T_ok 1 rfl ?_
     refine RL.loadM T_ok hS rfl rfl rfl (by with_reducible repeat (first | exact zS .. | apply zO)) (by rfl) (by rfl) ?_
     refine RL.pure T_ok 1 rfl ?_
     by_cases g0 : n = 0
     rotate_left
     · refine RL.eqv (v' := .bool false) (zV (bF (by omega))) ?_
       refine RL.A1 T_ok rfl ?_
       exact RL.N1 (QN.cutEnd false (Sub.C1 rfl (Sub.C1 rfl (Sub.C1 rfl (Sub.C1 rfl (Sub.C1 rfl (Sub.C1 rfl Sub.nil)))))) ⟨⟨(by intro h; cases h), fun h => absurd (h.1) g0⟩, hS⟩)
     refine RL.eqv (v' := .bool true) (zV (beq_iff_eq.2 (by omega))) ?_
     refine RL.pure T_ok 2 rfl ?_
     refine RL.loadM T_ok hS rfl rfl rfl (by with_reducible repeat (first | exact zS .. | apply zO)) (by rfl) (by rfl) ?_
     refine RL.pure T_ok 2 rfl ?_
     by_cases g1 : b.length = 0
     rotate_left
     · refine RL.eqv (v' := .bool false) (zV (bF (by omega))) ?_
       refine RL.A1 T_ok rfl ?_
       exact RL.N1 (QN.cutEnd false (Sub.C1 rfl (Sub.C1 rfl (Sub.C1 rfl (Sub.C1 rfl (Sub.C1 rfl (Sub.C1 rfl Sub.nil)))))) ⟨⟨(by intro h; cases h), fun h => absurd (h.2.1) g1⟩, hS⟩)
     refine RL.eqv (v' := .bool true) (zV (beq_iff_eq.2 (by omega))) ?_
     refine RL.pure T_ok 5 rfl ?_
     by_cases g2 : (vclean vec).length ≤ 16384
     rotate_left
     · refine RL.eqv (v' := .bool false) (zV (dF (by omega))) ?_
       refine RL.A1 T_ok rfl ?_
       exact RL.N1 (QN.cutEnd false (Sub.C1 rfl (Sub.C1 rfl (Sub.C1 rfl (Sub.C1 rfl (Sub.C1 rfl (Sub.C1 rfl Sub.nil)))))) ⟨⟨(by intro h; cases h), fun h => absurd (h.2.2.1) g2⟩, hS⟩)
     refine RL.eqv (v' := .bool true) (zV (dT (by omega))) ?_
     refine RL.pure T_ok 5 rfl ?_
     by_cases g3 : (tnorm turns).length ≤ 16384
     rotate_left
     · refine RL.eqv (v' := .bool false) (zV (dF (by omega))) ?_
       refine RL.A1 T_ok rfl ?_
       exact RL.N1 (QN.cutEnd false (Sub.C1 rfl (Sub.C1 rfl (Sub.C1 rfl (Sub.C1 rfl (Sub.C1 rfl (Sub.C1 rfl Sub.nil)))))) ⟨⟨(by intro h; cases h), fun h => absurd (h.2.2.2) g3⟩, hS⟩)
     refine RL.eqv (v' := .bool true) (zV (dT (by omega))) ?_
     refine RL.A1 T_ok rfl ?_
     exact RL.N1 (QN.cutEnd true (Sub.C1 rfl (Sub.C1 rfl (Sub.C1 rfl (Sub.C1 rfl (Sub.C1 rfl (Sub.C1 rfl Sub.nil)))))) ⟨⟨fun _ => ⟨g0, g1, g2, g3⟩, fun _ => rfl⟩, hS⟩)
   clear hS
   rintro q m ⟨hA, hS⟩
   (with_reducible repeat (first | refine WP.S1 ?_ | refine WP.B1 ?_ | refine WP.R1 ?_))
   refine RL.pure T_ok 1 rfl ?_
   refine RL.loadM T_ok hS rfl rfl rfl (by with_reducible repeat (first | exact zS .. | apply zO)) (by rfl) (by rfl) ?_
   refine RL.A1 T_ok rfl ?_
   refine RL.N1 ?_; (with_reducible repeat (first | refine QN.B1 ?_ | refine QN.N1 ?_))
   refine WP.condT rfl ?_
   refine WP.cut (X := Bool) (fun q => [(1, .pointer (some ⟨b1, 0, none⟩)), (4, .slice A1 (vclean vec).length c1), (5, .slice A2 (tnorm turns).length c2), (6, .bool (decide (0 < vec.length + turns.length))), (7, .slice (some ⟨b2, 0, none⟩) 1 1), (8, .bool q)]) (fun q m => (q = true ↔ (n = 0 ∧ b.length = 0 ∧ (vclean vec).length ≤ 16384 ∧ (tnorm turns).length ≤ 16384) ∧ 1 ≤ c ∧ c ≤ 9007199254740991 ∧ 1 ≤ room.length ∧ room.length ≤ 32 ∧ txt room = true) ∧ Tr m0 PP X m [ownA [b2] 5 1 (.slice (some ⟨b2, 0, none⟩) 1 1) ([UInt8.ofNat 1]).length (u8s ([UInt8.ofNat 1])), blkA b1 27 [.int .i64 1, .int .u64 c, .int .u64 n, .string (str room), .slice vA vec.length vc, .slice tA turns.length tc, .slice bA b.length bc], roA 2 (.slice A1 (vclean vec).length c1) ((vclean vec).flatMap cC), roA 4 (.slice A2 (tnorm turns).length c2) ((tnorm turns).flatMap tC), roA 1 (.slice bA b.length bc) (u8s b)]) ?_ ?_
   · (with_reducible repeat (first | refine WP.S1 ?_ | refine WP.B1 ?_ | refine WP.R1 ?_))
     cases q
     · refine RL.A1 T_ok rfl ?_
       exact RL.N1 (QN.cutEnd false (Sub.C1 rfl (Sub.C1 rfl (Sub.C1 rfl (Sub.C1 rfl (Sub.C1 rfl (Sub.C1 rfl Sub.nil)))))) ⟨⟨(by intro h; cases h), fun h => absurd (hA.2 h.1) (by decide)⟩, hS⟩)
     have hA := hA.1 rfl
     refine RL.pure T_ok 3 rfl ?_
     refine RL.loadM T_ok hS rfl rfl rfl (by with_reducible repeat (first | exact zS .. | apply zO)) (by rfl) (by rfl) ?_
     refine RL.pure T_ok 1 rfl ?_
     by_cases g0 : 1 ≤ c
     rotate_left
     · refine RL.eqv (v' := .bool false) (zV (dF (by omega))) ?_
       refine RL.A1 T_ok rfl ?_
       exact RL.N1 (QN.cutEnd false (Sub.C1 rfl (Sub.C1 rfl (Sub.C1 rfl (Sub.C1 rfl (Sub.C1 rfl (Sub.C1 rfl Sub.nil)))))) ⟨⟨(by intro h; cases h), fun h => absurd (h.2.1) g0⟩, hS⟩)
     refine RL.eqv (v' := .bool true) (zV (dT (by omega))) ?_
     refine RL.pure T_ok 3 rfl ?_
     refine RL.loadM T_ok hS rfl rfl rfl (by with_reducible repeat (first | exact zS .. | apply zO)) (by rfl) (by rfl) ?_
     refine RL.pure T_ok 1 rfl ?_
     by_cases g1 : c ≤ 9007199254740991
     rotate_left
     · refine RL.eqv (v' := .bool false) (zV (dF (by omega))) ?_
       refine RL.A1 T_ok rfl ?_
       exact RL.N1 (QN.cutEnd false (Sub.C1 rfl (Sub.C1 rfl (Sub.C1 rfl (Sub.C1 rfl (Sub.C1 rfl (Sub.C1 rfl Sub.nil)))))) ⟨⟨(by intro h; cases h), fun h => absurd (h.2.2.1) g1⟩, hS⟩)
     refine RL.eqv (v' := .bool true) (zV (dT (by omega))) ?_
     refine RL.pure T_ok 3 rfl ?_
     refine RL.loadM T_ok hS rfl rfl rfl (by with_reducible repeat (first | exact zS .. | apply zO)) (by rfl) (by rfl) ?_
     refine RL.pure T_ok 1 rfl ?_
     refine RL.eqv (v' := .int .i64 room.length) (zV (zV (str_sz room))) ?_
     refine RL.pure T_ok 1 rfl ?_
     by_cases g2 : 1 ≤ room.length
     rotate_left
     · refine RL.eqv (v' := .bool false) (zV (dF (by omega))) ?_
       refine RL.A1 T_ok rfl ?_
       exact RL.N1 (QN.cutEnd false (Sub.C1 rfl (Sub.C1 rfl (Sub.C1 rfl (Sub.C1 rfl (Sub.C1 rfl (Sub.C1 rfl Sub.nil)))))) ⟨⟨(by intro h; cases h), fun h => absurd (h.2.2.2.1) g2⟩, hS⟩)
     refine RL.eqv (v' := .bool true) (zV (dT (by omega))) ?_
     refine RL.pure T_ok 3 rfl ?_
     refine RL.loadM T_ok hS rfl rfl rfl (by with_reducible repeat (first | exact zS .. | apply zO)) (by rfl) (by rfl) ?_
     refine RL.pure T_ok 1 rfl ?_
     refine RL.eqv (v' := .int .i64 room.length) (zV (zV (str_sz room))) ?_
     refine RL.pure T_ok 1 rfl ?_
     by_cases g3 : room.length ≤ 32
     rotate_left
     · refine RL.eqv (v' := .bool false) (zV (dF (by omega))) ?_
       refine RL.A1 T_ok rfl ?_
       exact RL.N1 (QN.cutEnd false (Sub.C1 rfl (Sub.C1 rfl (Sub.C1 rfl (Sub.C1 rfl (Sub.C1 rfl (Sub.C1 rfl Sub.nil)))))) ⟨⟨(by intro h; cases h), fun h => absurd (h.2.2.2.2.1) g3⟩, hS⟩)
     refine RL.eqv (v' := .bool true) (zV (dT (by omega))) ?_
     refine RL.pure T_ok 3 rfl ?_
     refine RL.loadM T_ok hS rfl rfl rfl (by with_reducible repeat (first | exact zS .. | apply zO)) (by rfl) (by rfl) ?_
     refine RL.callM (fi := []) (ca := []) hS (refcheck_s room (by omega)) rfl rfl rfl rfl (by repeat (first | exact Sels.nil | apply Sels.ro (by with_reducible repeat (first | exact zS .. | apply zO)) (by rfl) | apply Sels.own (by with_reducible repeat (first | exact Sel.head | apply Sel.tail)))) ?_
     (try clear hS); rintro _ m _ ⟨rfl, rfl⟩ hS; (try simp only [zN] at hS); refine ⟨_, rfl, ?_⟩
     by_cases g4 : txt room = true
     rotate_left
     · refine RL.eqv (v' := .bool false) (zV (Bool.eq_false_iff.2 g4 : txt room = false)) ?_
       refine RL.A1 T_ok rfl ?_
       exact RL.N1 (QN.cutEnd false (Sub.C1 rfl (Sub.C1 rfl (Sub.C1 rfl (Sub.C1 rfl (Sub.C1 rfl (Sub.C1 rfl Sub.nil)))))) ⟨⟨(by intro h; cases h), fun h => absurd (h.2.2.2.2.2) g4⟩, hS⟩)
     refine RL.eqv (v' := .bool true) (zV g4) ?_
     refine RL.A1 T_ok rfl ?_
     exact RL.N1 (QN.cutEnd true (Sub.C1 rfl (Sub.C1 rfl (Sub.C1 rfl (Sub.C1 rfl (Sub.C1 rfl (Sub.C1 rfl Sub.nil)))))) ⟨⟨fun _ => ⟨hA, ⟨g0, g1, g2, g3, g4⟩⟩, fun _ => rfl⟩, hS⟩)
   clear hS hA
   rintro q m ⟨hB, hS⟩
   have q1 := encU_len10 (n := c) (by omega)
   have q2 := encS_len room (by omega)
   refine WP.drawS [blkA b1 27 [.int .i64 1, .int .u64 c, .int .u64 n, .string (str room), .slice vA vec.length vc, .slice tA turns.length tc, .slice bA b.length bc]] [] hS (by repeat (first | exact AllIn.nil | refine AllIn.cons (by repeat (first | with_reducible exact zS .. | exact zS .. | with_reducible apply zO)) ?_)) (by kernel_rfl) (by with_reducible repeat (first | exact PanicOk.body | refine PanicOk.then_ ?_ | refine PanicOk.block_ ?_)) (fun hQ => ?_)
   refine RH.pure T_ok hQ [0, 1] (by kernel_rfl) rfl ?_
   refine RH.loadM T_ok hQ 2 rfl (by kernel_rfl) rfl rfl rfl (by with_reducible repeat (first | exact zS .. | apply zO)) (by rfl) (by rfl) ?_
   refine RH.pure T_ok hQ [4] (by kernel_rfl) rfl ?_
   refine RH.loadM T_ok hQ 5 rfl (by kernel_rfl) rfl rfl rfl (by with_reducible repeat (first | exact zS .. | apply zO)) (by rfl) (by rfl) ?_
   refine RH.only 3 rfl (by kernel_rfl) (fun _ => ?_)
   refine RL.callM (fi := []) (ca := []) hS (refuint_s c (by omega) [b2] _ [UInt8.ofNat 1] (by simp)) rfl rfl rfl rfl (by repeat (first | exact Sels.nil | apply Sels.ro (by with_reducible repeat (first | exact zS .. | apply zO)) (by rfl) | apply Sels.own (by with_reducible repeat (first | exact Sel.head | apply Sel.tail)))) ?_
   (try clear hS); rintro w1 m _ ⟨S5, rfl⟩ hS; (try simp only [zC, zN] at hS); refine ⟨_, rfl, ?_⟩
   refine RL.N1 (RH.contM hS (by repeat (first | exact AllIn.nil | refine AllIn.cons (by repeat (first | with_reducible exact zS .. | exact zS .. | with_reducible apply zO)) ?_)) ?_)
   refine RH.only 6 rfl (by kernel_rfl) (fun _ => ?_)
   refine RL.callM (fi := []) (ca := []) hS (reftext_s room (by omega) S5 w1 (UInt8.ofNat 1 :: encU c) (by simp only [List.length_cons]; omega)) rfl rfl rfl rfl (by repeat (first | exact Sels.nil | apply Sels.ro (by with_reducible repeat (first | exact zS .. | apply zO)) (by rfl) | apply Sels.own (by with_reducible repeat (first | exact Sel.head | apply Sel.tail)))) ?_
   (try clear hS); rintro w2 m _ ⟨S6, rfl⟩ hS; (try simp only [zC, zN] at hS); refine ⟨_, rfl, ?_⟩
   refine RL.N1 (RH.contM hS (by repeat (first | exact AllIn.nil | refine AllIn.cons (by repeat (first | with_reducible exact zS .. | exact zS .. | with_reducible apply zO)) ?_)) ?_)
   refine RH.pure T_ok hQ [7] (by kernel_rfl) rfl ?_
   refine RH.done (by kernel_rfl) (fun _ => ?_)
   (with_reducible repeat (first | refine QN.B1 ?_ | refine QN.N1 ?_))
   (with_reducible repeat (first | refine WP.S1 ?_ | refine WP.B1 ?_ | refine WP.R1 ?_))
   repeat (first | refine RL.autoP T_ok rfl rfl ?_ | refine RL.loadM T_ok hS rfl rfl rfl (by with_reducible repeat (first | exact zS .. | apply zO)) (by rfl) (by rfl) ?_ | refine RL.lsM T_ok hS rfl rfl rfl (by with_reducible repeat (first | exact zS .. | apply zO)) (by rfl) (by rfl) (by rfl) ?_ | (refine RL.N1 ?_; (with_reducible repeat (first | refine QN.B1 ?_ | refine QN.N1 ?_))) | with_reducible refine WP.S1 ?_ | with_reducible refine WP.B1 ?_ | with_reducible refine WP.R1 ?_ | (refine WP.skip ?_; (with_reducible repeat (first | refine QN.B1 ?_ | refine QN.N1 ?_))) | refine WP.condT rfl ?_ | refine WP.condF rfl ?_)
   obtain ⟨pre, hp⟩ : ∃ pre, UInt8.ofNat 1 :: (encU c ++ encS room) = pre := ⟨_, rfl⟩
   have hpl : pre.length ≤ 6000 := by rw [← hp]; simp only [List.length_cons, zL]; omega
   rw [hp] at hS
   refine RL.callM (fi := []) (ca := []) hS (refvwrite_s S6 w2 (pre) _ (vclean vec) (by omega) (by omega)) rfl rfl rfl rfl (by repeat (first | exact Sels.nil | apply Sels.ro (by with_reducible repeat (first | exact zS .. | apply zO)) (by rfl) | apply Sels.own (by with_reducible repeat (first | exact Sel.head | apply Sel.tail)))) ?_
   (try clear hS); rintro w3 m _ ⟨S3, rfl⟩ hS; (try simp only [zC, zN] at hS); refine ⟨_, rfl, ?_⟩
   repeat (first | refine RL.autoP T_ok rfl rfl ?_ | refine RL.loadM T_ok hS rfl rfl rfl (by with_reducible repeat (first | exact zS .. | apply zO)) (by rfl) (by rfl) ?_ | refine RL.lsM T_ok hS rfl rfl rfl (by with_reducible repeat (first | exact zS .. | apply zO)) (by rfl) (by rfl) (by rfl) ?_ | (refine RL.N1 ?_; (with_reducible repeat (first | refine QN.B1 ?_ | refine QN.N1 ?_))) | with_reducible refine WP.S1 ?_ | with_reducible refine WP.B1 ?_ | with_reducible refine WP.R1 ?_ | (refine WP.skip ?_; (with_reducible repeat (first | refine QN.B1 ?_ | refine QN.N1 ?_))) | refine WP.condT rfl ?_ | refine WP.condF rfl ?_)
   have q3 := encV_len (vclean_canon (vclean vec)) (by rw [vclean_clean]; omega)
   refine RL.callM (fi := []) (ca := []) hS (refturnsW_s S3 w3 (pre ++ encV (vclean (vclean vec))) _ (tnorm turns) htc (by omega) (by simp only [zL]; omega)) rfl rfl rfl rfl (by repeat (first | exact Sels.nil | apply Sels.ro (by with_reducible repeat (first | exact zS .. | apply zO)) (by rfl) | apply Sels.own (by with_reducible repeat (first | exact Sel.head | apply Sel.tail)))) ?_
   (try clear hS); rintro w4 m _ ⟨S4, rfl⟩ hS; (try simp only [zC, zN] at hS); refine ⟨_, rfl, ?_⟩
   refine RL.A1 T_ok rfl ?_
   refine RL.N1 ?_
   (with_reducible repeat (first | refine QN.B1 ?_))
   refine QN.cutEnd (q, w4, S4, _) (Sub.C1 rfl (Sub.C1 rfl Sub.nil)) ⟨hB.trans ok1_iff.symm, fun _ => ?_, Tr.drop (H := [_]) hS⟩
   show _ = Msg.enc _
   rw [vclean_clean, ← hp]
   simp [Msg.enc]
 by_cases k2 : K = 2
 · subst k2
   obtain rfl := byte_is hkw 2 (by omega) rfl
   (with_reducible repeat (first | refine WP.S1 ?_ | refine WP.B1 ?_ | refine WP.R1 ?_))
   refine RL.pure T_ok 1 rfl ?_
   refine RL.loadM T_ok hS rfl rfl rfl (by with_reducible repeat (first | exact zS .. | apply zO)) (by rfl) (by rfl) ?_
   refine RL.N1 ?_; (with_reducible repeat (first | refine QN.B1 ?_ | refine QN.N1 ?_))
   (with_reducible repeat (first | refine WP.S1 ?_ | refine WP.B1 ?_ | refine WP.R1 ?_))
   refine RL.A1 T_ok rfl ?_
   refine RL.N1 ?_; (with_reducible repeat (first | refine QN.B1 ?_ | refine QN.N1 ?_))
   refine WP.condF rfl ?_
   (with_reducible repeat (first | refine WP.S1 ?_ | refine WP.B1 ?_ | refine WP.R1 ?_))
   refine RL.A1 T_ok rfl ?_
   refine RL.N1 ?_; (with_reducible repeat (first | refine QN.B1 ?_ | refine QN.N1 ?_))
   refine WP.condT rfl ?_
   refine WP.cut (X := Bool) (fun q => [(1, .pointer (some ⟨b1, 0, none⟩)), (4, .slice A1 (vclean vec).length c1), (5, .slice A2 (tnorm turns).length c2), (6, .bool (decide (0 < vec.length + turns.length))), (7, .slice (some ⟨b2, 0, none⟩) 1 1), (8, .bool q)]) (fun q m => (q = true ↔ n = 0 ∧ b.length = 0 ∧ (vclean vec).length ≤ 16384 ∧ (tnorm turns).length ≤ 16384) ∧ Tr m0 PP X m [ownA [b2] 5 1 (.slice (some ⟨b2, 0, none⟩) 1 1) ([UInt8.ofNat 2]).length (u8s ([UInt8.ofNat 2])), blkA b1 27 [.int .i64 2, .int .u64 c, .int .u64 n, .string (str room), .slice vA vec.length vc, .slice tA turns.length tc, .slice bA b.length bc], roA 2 (.slice A1 (vclean vec).length c1) ((vclean vec).flatMap cC), roA 4 (.slice A2 (tnorm turns).length c2) ((tnorm turns).flatMap tC), roA 1 (.slice bA b.length bc) (u8s b)]) ?_ ?_
   · skip
     (with_reducible repeat (first | refine WP.S1 ?_ | refine WP.B1 ?_ | refine WP.R1 ?_))
     refine RL.pure T_ok 1 rfl ?_
     refine RL.loadM T_ok hS rfl rfl rfl (by with_reducible repeat (first | exact zS .. | apply zO)) (by rfl) (by rfl) ?_
     refine RL.pure T_ok 1 rfl ?_
     by_cases g0 : n = 0
     rotate_left
     · refine RL.eqv (v' := .bool false) (zV (bF (by omega))) ?_
       refine RL.A1 T_ok rfl ?_
       exact RL.N1 (QN.cutEnd false (Sub.C1 rfl (Sub.C1 rfl (Sub.C1 rfl (Sub.C1 rfl (Sub.C1 rfl (Sub.C1 rfl Sub.nil)))))) ⟨⟨(by intro h; cases h), fun h => absurd (h.1) g0⟩, hS⟩)
     refine RL.eqv (v' := .bool true) (zV (beq_iff_eq.2 (by omega))) ?_
     refine RL.pure T_ok 2 rfl ?_
     refine RL.loadM T_ok hS rfl rfl rfl (by with_reducible repeat (first | exact zS .. | apply zO)) (by rfl) (by rfl) ?_
     refine RL.pure T_ok 2 rfl ?_
     by_cases g1 : b.length = 0
     rotate_left
     · refine RL.eqv (v' := .bool false) (zV (bF (by omega))) ?_
       refine RL.A1 T_ok rfl ?_
       exact RL.N1 (QN.cutEnd false (Sub.C1 rfl (Sub.C1 rfl (Sub.C1 rfl (Sub.C1 rfl (Sub.C1 rfl (Sub.C1 rfl Sub.nil)))))) ⟨⟨(by intro h; cases h), fun h => absurd (h.2.1) g1⟩, hS⟩)
     refine RL.eqv (v' := .bool true) (zV (beq_iff_eq.2 (by omega))) ?_
     refine RL.pure T_ok 5 rfl ?_
     by_cases g2 : (vclean vec).length ≤ 16384
     rotate_left
     · refine RL.eqv (v' := .bool false) (zV (dF (by omega))) ?_
       refine RL.A1 T_ok rfl ?_
       exact RL.N1 (QN.cutEnd false (Sub.C1 rfl (Sub.C1 rfl (Sub.C1 rfl (Sub.C1 rfl (Sub.C1 rfl (Sub.C1 rfl Sub.nil)))))) ⟨⟨(by intro h; cases h), fun h => absurd (h.2.2.1) g2⟩, hS⟩)
     refine RL.eqv (v' := .bool true) (zV (dT (by omega))) ?_
     refine RL.pure T_ok 5 rfl ?_
     by_cases g3 : (tnorm turns).length ≤ 16384
     rotate_left
     · refine RL.eqv (v' := .bool false) (zV (dF (by omega))) ?_
       refine RL.A1 T_ok rfl ?_
       exact RL.N1 (QN.cutEnd false (Sub.C1 rfl (Sub.C1 rfl (Sub.C1 rfl (Sub.C1 rfl (Sub.C1 rfl (Sub.C1 rfl Sub.nil)))))) ⟨⟨(by intro h; cases h), fun h => absurd (h.2.2.2) g3⟩, hS⟩)
     refine RL.eqv (v' := .bool true) (zV (dT (by omega))) ?_
     refine RL.A1 T_ok rfl ?_
     exact RL.N1 (QN.cutEnd true (Sub.C1 rfl (Sub.C1 rfl (Sub.C1 rfl (Sub.C1 rfl (Sub.C1 rfl (Sub.C1 rfl Sub.nil)))))) ⟨⟨fun _ => ⟨g0, g1, g2, g3⟩, fun _ => rfl⟩, hS⟩)
   clear hS
   rintro q m ⟨hA, hS⟩
   refine WP.cut (X := Bool) (fun q => [(1, .pointer (some ⟨b1, 0, none⟩)), (4, .slice A1 (vclean vec).length c1), (5, .slice A2 (tnorm turns).length c2), (6, .bool (decide (0 < vec.length + turns.length))), (7, .slice (some ⟨b2, 0, none⟩) 1 1), (8, .bool q)]) (fun q m => (q = true ↔ (n = 0 ∧ b.length = 0 ∧ (vclean vec).length ≤ 16384 ∧ (tnorm turns).length ≤ 16384) ∧ c = 0 ∧ room = []) ∧ Tr m0 PP X m [ownA [b2] 5 1 (.slice (some ⟨b2, 0, none⟩) 1 1) ([UInt8.ofNat 2]).length (u8s ([UInt8.ofNat 2])), blkA b1 27 [.int .i64 2, .int .u64 c, .int .u64 n, .string (str room), .slice vA vec.length vc, .slice tA turns.length tc, .slice bA b.length bc], roA 2 (.slice A1 (vclean vec).length c1) ((vclean vec).flatMap cC), roA 4 (.slice A2 (tnorm turns).length c2) ((tnorm turns).flatMap tC), roA 1 (.slice bA b.length bc) (u8s b)]) ?_ ?_
   · (with_reducible repeat (first | refine WP.S1 ?_ | refine WP.B1 ?_ | refine WP.R1 ?_))
     refine RL.pure T_ok 1 rfl ?_
     refine RL.loadM T_ok hS rfl rfl rfl (by with_reducible repeat (first | exact zS .. | apply zO)) (by rfl) (by rfl) ?_
     refine RL.A1 T_ok rfl ?_
     refine RL.N1 ?_; (with_reducible repeat (first | refine QN.B1 ?_ | refine QN.N1 ?_))
     refine WP.condF rfl ?_
     (with_reducible repeat (first | refine WP.S1 ?_ | refine WP.B1 ?_ | refine WP.R1 ?_))
     cases q
     · refine RL.A1 T_ok rfl ?_
       exact RL.N1 (QN.cutEnd false (Sub.C1 rfl (Sub.C1 rfl (Sub.C1 rfl (Sub.C1 rfl (Sub.C1 rfl (Sub.C1 rfl Sub.nil)))))) ⟨⟨(by intro h; cases h), fun h => absurd (hA.2 h.1) (by decide)⟩, hS⟩)
     have hA := hA.1 rfl
     refine RL.pure T_ok 3 rfl ?_
     refine RL.loadM T_ok hS rfl rfl rfl (by with_reducible repeat (first | exact zS .. | apply zO)) (by rfl) (by rfl) ?_
     refine RL.pure T_ok 1 rfl ?_
     by_cases g0 : c = 0
     rotate_left
     · refine RL.eqv (v' := .bool false) (zV (bF (by omega))) ?_
       refine RL.A1 T_ok rfl ?_
       exact RL.N1 (QN.cutEnd false (Sub.C1 rfl (Sub.C1 rfl (Sub.C1 rfl (Sub.C1 rfl (Sub.C1 rfl (Sub.C1 rfl Sub.nil)))))) ⟨⟨(by intro h; cases h), fun h => absurd (h.2.1) g0⟩, hS⟩)
     refine RL.eqv (v' := .bool true) (zV (beq_iff_eq.2 (by omega))) ?_
     refine RL.pure T_ok 3 rfl ?_
     refine RL.loadM T_ok hS rfl rfl rfl (by with_reducible repeat (first | exact zS .. | apply zO)) (by rfl) (by rfl) ?_
     refine RL.pure T_ok 1 rfl ?_
     by_cases g1 : room = []
     rotate_left
     · refine RL.eqv (v' := .bool false) (zV ((str_eq _ []).trans (dF g1))) ?_
       refine RL.A1 T_ok rfl ?_
       exact RL.N1 (QN.cutEnd false (Sub.C1 rfl (Sub.C1 rfl (Sub.C1 rfl (Sub.C1 rfl (Sub.C1 rfl (Sub.C1 rfl Sub.nil)))))) ⟨⟨(by intro h; cases h), fun h => absurd (h.2.2) g1⟩, hS⟩)
     refine RL.eqv (v' := .bool true) (zV ((str_eq _ []).trans (dT g1))) ?_
     refine RL.A1 T_ok rfl ?_
     exact RL.N1 (QN.cutEnd true (Sub.C1 rfl (Sub.C1 rfl (Sub.C1 rfl (Sub.C1 rfl (Sub.C1 rfl (Sub.C1 rfl Sub.nil)))))) ⟨⟨fun _ => ⟨hA, ⟨g0, g1⟩⟩, fun _ => rfl⟩, hS⟩)
   clear hS hA
   rintro q m ⟨hB, hS⟩
   (with_reducible repeat (first | refine WP.S1 ?_ | refine WP.B1 ?_ | refine WP.R1 ?_))
   repeat (first | refine RL.autoP T_ok rfl rfl ?_ | refine RL.loadM T_ok hS rfl rfl rfl (by with_reducible repeat (first | exact zS .. | apply zO)) (by rfl) (by rfl) ?_ | refine RL.lsM T_ok hS rfl rfl rfl (by with_reducible repeat (first | exact zS .. | apply zO)) (by rfl) (by rfl) (by rfl) ?_ | (refine RL.N1 ?_; (with_reducible repeat (first | refine QN.B1 ?_ | refine QN.N1 ?_))) | with_reducible refine WP.S1 ?_ | with_reducible refine WP.B1 ?_ | with_reducible refine WP.R1 ?_ | (refine WP.skip ?_; (with_reducible repeat (first | refine QN.B1 ?_ | refine QN.N1 ?_))) | refine WP.condT rfl ?_ | refine WP.condF rfl ?_)
   obtain ⟨pre, hp⟩ : ∃ pre, [UInt8.ofNat 2] = pre := ⟨_, rfl⟩
   have hpl : pre.length ≤ 6000 := by rw [← hp]; simp only [List.length_cons, List.length_nil]; omega
   rw [hp] at hS
   refine RL.callM (fi := []) (ca := []) hS (refvwrite_s [b2] _ (pre) _ (vclean vec) (by omega) (by omega)) rfl rfl rfl rfl (by repeat (first | exact Sels.nil | apply Sels.ro (by with_reducible repeat (first | exact zS .. | apply zO)) (by rfl) | apply Sels.own (by with_reducible repeat (first | exact Sel.head | apply Sel.tail)))) ?_
   (try clear hS); rintro w3 m _ ⟨S3, rfl⟩ hS; (try simp only [zC, zN] at hS); refine ⟨_, rfl, ?_⟩
   repeat (first | refine RL.autoP T_ok rfl rfl ?_ | refine RL.loadM T_ok hS rfl rfl rfl (by with_reducible repeat (first | exact zS .. | apply zO)) (by rfl) (by rfl) ?_ | refine RL.lsM T_ok hS rfl rfl rfl (by with_reducible repeat (first | exact zS .. | apply zO)) (by rfl) (by rfl) (by rfl) ?_ | (refine RL.N1 ?_; (with_reducible repeat (first | refine QN.B1 ?_ | refine QN.N1 ?_))) | with_reducible refine WP.S1 ?_ | with_reducible refine WP.B1 ?_ | with_reducible refine WP.R1 ?_ | (refine WP.skip ?_; (with_reducible repeat (first | refine QN.B1 ?_ | refine QN.N1 ?_))) | refine WP.condT rfl ?_ | refine WP.condF rfl ?_)
   have q3 := encV_len (vclean_canon (vclean vec)) (by rw [vclean_clean]; omega)
   refine RL.callM (fi := []) (ca := []) hS (refturnsW_s S3 w3 (pre ++ encV (vclean (vclean vec))) _ (tnorm turns) htc (by omega) (by simp only [zL]; omega)) rfl rfl rfl rfl (by repeat (first | exact Sels.nil | apply Sels.ro (by with_reducible repeat (first | exact zS .. | apply zO)) (by rfl) | apply Sels.own (by with_reducible repeat (first | exact Sel.head | apply Sel.tail)))) ?_
   (try clear hS); rintro w4 m _ ⟨S4, rfl⟩ hS; (try simp only [zC, zN] at hS); refine ⟨_, rfl, ?_⟩
   refine RL.A1 T_ok rfl ?_
   refine RL.N1 ?_
   (with_reducible repeat (first | refine QN.B1 ?_))
   refine QN.cutEnd (q, w4, S4, _) (Sub.C1 rfl (Sub.C1 rfl Sub.nil)) ⟨hB.trans ok2_iff.symm, fun _ => ?_, Tr.drop (H := [_]) hS⟩
   show _ = Msg.enc _
   rw [vclean_clean, ← hp]
   simp [Msg.enc]
 by_cases k3 : K = 3
 · subst k3
   obtain rfl := byte_is hkw 3 (by omega) rfl
   (with_reducible repeat (first | refine WP.S1 ?_ | refine WP.B1 ?_ | refine WP.R1 ?_))
   refine RL.pure T_ok 1 rfl ?_
   refine RL.loadM T_ok hS rfl rfl rfl (by with_reducible repeat (first | exact zS .. | apply zO)) (by rfl) (by rfl) ?_
   refine RL.N1 ?_; (with_reducible repeat (first | refine QN.B1 ?_ | refine QN.N1 ?_))
   (with_reducible repeat (first | refine WP.S1 ?_ | refine WP.B1 ?_ | refine WP.R1 ?_))
   refine RL.A1 T_ok rfl ?_
   refine RL.N1 ?_; (with_reducible repeat (first | refine QN.B1 ?_ | refine QN.N1 ?_))
   refine WP.condF rfl ?_
   (with_reducible repeat (first | refine WP.S1 ?_ | refine WP.B1 ?_ | refine WP.R1 ?_))
   refine RL.A1 T_ok rfl ?_
   refine RL.N1 ?_; (with_reducible repeat (first | refine QN.B1 ?_ | refine QN.N1 ?_))
   refine WP.condF rfl ?_
   (with_reducible repeat (first | refine WP.S1 ?_ | refine WP.B1 ?_ | refine WP.R1 ?_))
   refine RL.A1 T_ok rfl ?_
   refine RL.N1 ?_; (with_reducible repeat (first | refine QN.B1 ?_ | refine QN.N1 ?_))
   refine WP.condT rfl ?_
   refine WP.skip ?_; (with_reducible repeat (first | refine QN.B1 ?_ | refine QN.N1 ?_))
   refine WP.condT rfl ?_
   refine WP.cut (X := Bool) (fun q => [(1, .pointer (some ⟨b1, 0, none⟩)), (4, .slice A1 (vclean vec).length c1), (5, .slice A2 (tnorm turns).length c2), (6, .bool (decide (0 < vec.length + turns.length))), (7, .slice (some ⟨b2, 0, none⟩) 1 1), (8, .bool q)]) (fun q m => (q = true ↔ vec.length + turns.length = 0 ∧ c = 0 ∧ room = [] ∧ b.length ≤ 1048576 ∧ n ≤ 9007199254740991) ∧ Tr m0 PP X m [ownA [b2] 5 1 (.slice (some ⟨b2, 0, none⟩) 1 1) ([UInt8.ofNat 3]).length (u8s ([UInt8.ofNat 3])), blkA b1 27 [.int .i64 3, .int .u64 c, .int .u64 n, .string (str room), .slice vA vec.length vc, .slice tA turns.length tc, .slice bA b.length bc], roA 2 (.slice A1 (vclean vec).length c1) ((vclean vec).flatMap cC), roA 4 (.slice A2 (tnorm turns).length c2) ((tnorm turns).flatMap tC), roA 1 (.slice bA b.length bc) (u8s b)]) ?_ ?_
   · skip
     (with_reducible repeat (first | refine WP.S1 ?_ | refine WP.B1 ?_ | refine WP.R1 ?_))
     refine RL.pure T_ok 2 rfl ?_
     by_cases g0 : vec.length + turns.length = 0
     rotate_left
     · refine RL.eqv (v' := .bool false) (zV (by rw [dT (by omega)]; rfl)) ?_
       refine RL.A1 T_ok rfl ?_
       exact RL.N1 (QN.cutEnd false (Sub.C1 rfl (Sub.C1 rfl (Sub.C1 rfl (Sub.C1 rfl (Sub.C1 rfl (Sub.C1 rfl Sub.nil)))))) ⟨⟨(by intro h; cases h), fun h => absurd (h.1) g0⟩, hS⟩)
     refine RL.eqv (v' := .bool true) (zV (by rw [dF (by omega)]; rfl)) ?_
     refine RL.pure T_ok 2 rfl ?_
     refine RL.loadM T_ok hS rfl rfl rfl (by with_reducible repeat (first | exact zS .. | apply zO)) (by rfl) (by rfl) ?_
     refine RL.pure T_ok 1 rfl ?_
     by_cases g1 : c = 0
     rotate_left
     · refine RL.eqv (v' := .bool false) (zV (bF (by omega))) ?_
       refine RL.A1 T_ok rfl ?_
       exact RL.N1 (QN.cutEnd false (Sub.C1 rfl (Sub.C1 rfl (Sub.C1 rfl (Sub.C1 rfl (Sub.C1 rfl (Sub.C1 rfl Sub.nil)))))) ⟨⟨(by intro h; cases h), fun h => absurd (h.2.1) g1⟩, hS⟩)
     refine RL.eqv (v' := .bool true) (zV (beq_iff_eq.2 (by omega))) ?_
     refine RL.pure T_ok 3 rfl ?_
     refine RL.loadM T_ok hS rfl rfl rfl (by with_reducible repeat (first | exact zS .. | apply zO)) (by rfl) (by rfl) ?_
     refine RL.pure T_ok 1 rfl ?_
     by_cases g2 : room = []
     rotate_left
     · refine RL.eqv (v' := .bool false) (zV ((str_eq _ []).trans (dF g2))) ?_
       refine RL.A1 T_ok rfl ?_
       exact RL.N1 (QN.cutEnd false (Sub.C1 rfl (Sub.C1 rfl (Sub.C1 rfl (Sub.C1 rfl (Sub.C1 rfl (Sub.C1 rfl Sub.nil)))))) ⟨⟨(by intro h; cases h), fun h => absurd (h.2.2.1) g2⟩, hS⟩)
     refine RL.eqv (v' := .bool true) (zV ((str_eq _ []).trans (dT g2))) ?_
     refine RL.pure T_ok 3 rfl ?_
     refine RL.loadM T_ok hS rfl rfl rfl (by with_reducible repeat (first | exact zS .. | apply zO)) (by rfl) (by rfl) ?_
     refine RL.pure T_ok 2 rfl ?_
     by_cases g3 : b.length ≤ 1048576
     rotate_left
     · refine RL.eqv (v' := .bool false) (zV (dF (by omega))) ?_
       refine RL.A1 T_ok rfl ?_
       exact RL.N1 (QN.cutEnd false (Sub.C1 rfl (Sub.C1 rfl (Sub.C1 rfl (Sub.C1 rfl (Sub.C1 rfl (Sub.C1 rfl Sub.nil)))))) ⟨⟨(by intro h; cases h), fun h => absurd (h.2.2.2.1) g3⟩, hS⟩)
     refine RL.eqv (v' := .bool true) (zV (dT (by omega))) ?_
     refine RL.pure T_ok 3 rfl ?_
     refine RL.loadM T_ok hS rfl rfl rfl (by with_reducible repeat (first | exact zS .. | apply zO)) (by rfl) (by rfl) ?_
     refine RL.pure T_ok 1 rfl ?_
     by_cases g4 : n ≤ 9007199254740991
     rotate_left
     · refine RL.eqv (v' := .bool false) (zV (dF (by omega))) ?_
       refine RL.A1 T_ok rfl ?_
       exact RL.N1 (QN.cutEnd false (Sub.C1 rfl (Sub.C1 rfl (Sub.C1 rfl (Sub.C1 rfl (Sub.C1 rfl (Sub.C1 rfl Sub.nil)))))) ⟨⟨(by intro h; cases h), fun h => absurd (h.2.2.2.2) g4⟩, hS⟩)
     refine RL.eqv (v' := .bool true) (zV (dT (by omega))) ?_
     refine RL.A1 T_ok rfl ?_
     exact RL.N1 (QN.cutEnd true (Sub.C1 rfl (Sub.C1 rfl (Sub.C1 rfl (Sub.C1 rfl (Sub.C1 rfl (Sub.C1 rfl Sub.nil)))))) ⟨⟨fun _ => ⟨g0, g1, g2, g3, g4⟩, fun _ => rfl⟩, hS⟩)
   clear hS
   rintro q m ⟨hA, hS⟩
   have q1 := encU_len10 (n := n) (by omega)
   (with_reducible repeat (first | refine WP.S1 ?_ | refine WP.B1 ?_ | refine WP.R1 ?_))
   refine RL.pure T_ok 1 rfl ?_
   refine RL.loadM T_ok hS rfl rfl rfl (by with_reducible repeat (first | exact zS .. | apply zO)) (by rfl) (by rfl) ?_
   refine RL.A1 T_ok rfl ?_
   refine RL.N1 ?_; (with_reducible repeat (first | refine QN.B1 ?_ | refine QN.N1 ?_))
   refine WP.condT rfl ?_
   (with_reducible repeat (first | refine WP.S1 ?_ | refine WP.B1 ?_ | refine WP.R1 ?_))
   refine RL.pure T_ok 2 rfl ?_
   refine RL.loadM T_ok hS rfl rfl rfl (by with_reducible repeat (first | exact zS .. | apply zO)) (by rfl) (by rfl) ?_
   refine RL.callM (fi := []) (ca := []) hS (refuint_s n (by omega) [b2] _ [UInt8.ofNat 3] (by simp)) rfl rfl rfl rfl (by repeat (first | exact Sels.nil | apply Sels.ro (by with_reducible repeat (first | exact zS .. | apply zO)) (by rfl) | apply Sels.own (by with_reducible repeat (first | exact Sel.head | apply Sel.tail)))) ?_
   (try clear hS); rintro w1 m _ ⟨S5, rfl⟩ hS; (try simp only [zC, zN] at hS); refine ⟨_, rfl, ?_⟩
   refine RL.A1 T_ok rfl ?_
   refine RL.N1 ?_; (with_reducible repeat (first | refine QN.B1 ?_ | refine QN.N1 ?_))
   (with_reducible repeat (first | refine WP.S1 ?_ | refine WP.B1 ?_ | refine WP.R1 ?_))
   refine RL.pure T_ok 2 rfl ?_
   refine RL.loadM T_ok hS rfl rfl rfl (by with_reducible repeat (first | exact zS .. | apply zO)) (by rfl) (by rfl) ?_
   refine RL.bytesString T_ok (hS.mem (A := roA 1 (.slice bA b.length bc) (u8s b)) (by with_reducible repeat (first | exact zS .. | apply zO))).1 rfl rfl rfl rfl rfl rfl ?_
   refine RL.callM (fi := []) (ca := []) hS (reftext_s b (by omega) S5 w1 (UInt8.ofNat 3 :: encU n) (by simp only [List.length_cons]; omega)) rfl rfl rfl rfl (by repeat (first | exact Sels.nil | apply Sels.ro (by with_reducible repeat (first | exact zS .. | apply zO)) (by rfl) | apply Sels.own (by with_reducible repeat (first | exact Sel.head | apply Sel.tail)))) ?_
   (try clear hS); rintro w2 m _ ⟨S6, rfl⟩ hS; (try simp only [zC, zN] at hS); refine ⟨_, rfl, ?_⟩
   refine RL.A1 T_ok rfl ?_
   refine RL.N1 ?_
   (with_reducible repeat (first | refine QN.B1 ?_))
   refine QN.cutEnd (q, w2, S6, _) (Sub.C1 rfl (Sub.C1 rfl Sub.nil)) ⟨hA.trans ok3_iff.symm, fun hq => ?_, Tr.drop (H := [_]) hS⟩
   show _ = Msg.enc _
   simp [Msg.enc]
 by_cases k5 : K = 5
 · subst k5
   obtain rfl := byte_is hkw 5 (by omega) rfl
   (with_reducible repeat (first | refine WP.S1 ?_ | refine WP.B1 ?_ | refine WP.R1 ?_))
   refine RL.pure T_ok 1 rfl ?_
   refine RL.loadM T_ok hS rfl rfl rfl (by with_reducible repeat (first | exact zS .. | apply zO)) (by rfl) (by rfl) ?_
   refine RL.N1 ?_; (with_reducible repeat (first | refine QN.B1 ?_ | refine QN.N1 ?_))
   (with_reducible repeat (first | refine WP.S1 ?_ | refine WP.B1 ?_ | refine WP.R1 ?_))
   refine RL.A1 T_ok rfl ?_
   refine RL.N1 ?_; (with_reducible repeat (first | refine QN.B1 ?_ | refine QN.N1 ?_))
   refine WP.condF rfl ?_
   (with_reducible repeat (first | refine WP.S1 ?_ | refine WP.B1 ?_ | refine WP.R1 ?_))
   refine RL.A1 T_ok rfl ?_
   refine RL.N1 ?_; (with_reducible repeat (first | refine QN.B1 ?_ | refine QN.N1 ?_))
   refine WP.condF rfl ?_
   (with_reducible repeat (first | refine WP.S1 ?_ | refine WP.B1 ?_ | refine WP.R1 ?_))
   refine RL.A1 T_ok rfl ?_
   refine RL.N1 ?_; (with_reducible repeat (first | refine QN.B1 ?_ | refine QN.N1 ?_))
   refine WP.condF rfl ?_
   (with_reducible repeat (first | refine WP.S1 ?_ | refine WP.B1 ?_ | refine WP.R1 ?_))
   refine RL.A1 T_ok rfl ?_
   refine RL.N1 ?_; (with_reducible repeat (first | refine QN.B1 ?_ | refine QN.N1 ?_))
   refine WP.condT rfl ?_
   refine WP.cut (X := Bool) (fun q => [(1, .pointer (some ⟨b1, 0, none⟩)), (4, .slice A1 (vclean vec).length c1), (5, .slice A2 (tnorm turns).length c2), (6, .bool (decide (0 < vec.length + turns.length))), (7, .slice (some ⟨b2, 0, none⟩) 1 1), (8, .bool q)]) (fun q m => (q = true ↔ vec.length + turns.length = 0 ∧ c = 0 ∧ room = [] ∧ b.length ≤ 1048576 ∧ n ≤ 9007199254740991) ∧ Tr m0 PP X m [ownA [b2] 5 1 (.slice (some ⟨b2, 0, none⟩) 1 1) ([UInt8.ofNat 5]).length (u8s ([UInt8.ofNat 5])), blkA b1 27 [.int .i64 5, .int .u64 c, .int .u64 n, .string (str room), .slice vA vec.length vc, .slice tA turns.length tc, .slice bA b.length bc], roA 2 (.slice A1 (vclean vec).length c1) ((vclean vec).flatMap cC), roA 4 (.slice A2 (tnorm turns).length c2) ((tnorm turns).flatMap tC), roA 1 (.slice bA b.length bc) (u8s b)]) ?_ ?_
   · skip
     (with_reducible repeat (first | refine WP.S1 ?_ | refine WP.B1 ?_ | refine WP.R1 ?_))
     refine RL.pure T_ok 2 rfl ?_
     by_cases g0 : vec.length + turns.length = 0
     rotate_left
     · refine RL.eqv (v' := .bool false) (zV (by rw [dT (by omega)]; rfl)) ?_
       refine RL.A1 T_ok rfl ?_
       exact RL.N1 (QN.cutEnd false (Sub.C1 rfl (Sub.C1 rfl (Sub.C1 rfl (Sub.C1 rfl (Sub.C1 rfl (Sub.C1 rfl Sub.nil)))))) ⟨⟨(by intro h; cases h), fun h => absurd (h.1) g0⟩, hS⟩)
     refine RL.eqv (v' := .bool true) (zV (by rw [dF (by omega)]; rfl)) ?_
     refine RL.pure T_ok 2 rfl ?_
     refine RL.loadM T_ok hS rfl rfl rfl (by with_reducible repeat (first | exact zS .. | apply zO)) (by rfl) (by rfl) ?_
     refine RL.pure T_ok 1 rfl ?_
     by_cases g1 : c = 0
     rotate_left
     · refine RL.eqv (v' := .bool false) (zV (bF (by omega))) ?_
       refine RL.A1 T_ok rfl ?_
       exact RL.N1 (QN.cutEnd false (Sub.C1 rfl (Sub.C1 rfl (Sub.C1 rfl (Sub.C1 rfl (Sub.C1 rfl (Sub.C1 rfl Sub.nil)))))) ⟨⟨(by intro h; cases h), fun h => absurd (h.2.1) g1⟩, hS⟩)
     refine RL.eqv (v' := .bool true) (zV (beq_iff_eq.2 (by omega))) ?_
     refine RL.pure T_ok 3 rfl ?_
     refine RL.loadM T_ok hS rfl rfl rfl (by with_reducible repeat (first | exact zS .. | apply zO)) (by rfl) (by rfl) ?_
     refine RL.pure T_ok 1 rfl ?_
     by_cases g2 : room = []
     rotate_left
     · refine RL.eqv (v' := .bool false) (zV ((str_eq _ []).trans (dF g2))) ?_
       refine RL.A1 T_ok rfl ?_
       exact RL.N1 (QN.cutEnd false (Sub.C1 rfl (Sub.C1 rfl (Sub.C1 rfl (Sub.C1 rfl (Sub.C1 rfl (Sub.C1 rfl Sub.nil)))))) ⟨⟨(by intro h; cases h), fun h => absurd (h.2.2.1) g2⟩, hS⟩)
     refine RL.eqv (v' := .bool true) (zV ((str_eq _ []).trans (dT g2))) ?_
     refine RL.pure T_ok 3 rfl ?_
     refine RL.loadM T_ok hS rfl rfl rfl (by with_reducible repeat (first | exact zS .. | apply zO)) (by rfl) (by rfl) ?_
     refine RL.pure T_ok 2 rfl ?_
     by_cases g3 : b.length ≤ 1048576
     rotate_left
     · refine RL.eqv (v' := .bool false) (zV (dF (by omega))) ?_
       refine RL.A1 T_ok rfl ?_
       exact RL.N1 (QN.cutEnd false (Sub.C1 rfl (Sub.C1 rfl (Sub.C1 rfl (Sub.C1 rfl (Sub.C1 rfl (Sub.C1 rfl Sub.nil)))))) ⟨⟨(by intro h; cases h), fun h => absurd (h.2.2.2.1) g3⟩, hS⟩)
     refine RL.eqv (v' := .bool true) (zV (dT (by omega))) ?_
     refine RL.pure T_ok 3 rfl ?_
     refine RL.loadM T_ok hS rfl rfl rfl (by with_reducible repeat (first | exact zS .. | apply zO)) (by rfl) (by rfl) ?_
     refine RL.pure T_ok 1 rfl ?_
     by_cases g4 : n ≤ 9007199254740991
     rotate_left
     · refine RL.eqv (v' := .bool false) (zV (dF (by omega))) ?_
       refine RL.A1 T_ok rfl ?_
       exact RL.N1 (QN.cutEnd false (Sub.C1 rfl (Sub.C1 rfl (Sub.C1 rfl (Sub.C1 rfl (Sub.C1 rfl (Sub.C1 rfl Sub.nil)))))) ⟨⟨(by intro h; cases h), fun h => absurd (h.2.2.2.2) g4⟩, hS⟩)
     refine RL.eqv (v' := .bool true) (zV (dT (by omega))) ?_
     refine RL.A1 T_ok rfl ?_
     exact RL.N1 (QN.cutEnd true (Sub.C1 rfl (Sub.C1 rfl (Sub.C1 rfl (Sub.C1 rfl (Sub.C1 rfl (Sub.C1 rfl Sub.nil)))))) ⟨⟨fun _ => ⟨g0, g1, g2, g3, g4⟩, fun _ => rfl⟩, hS⟩)
   clear hS
   rintro q m ⟨hA, hS⟩
   have q1 := encU_len10 (n := n) (by omega)
   refine WP.cut (X := Bool) (fun q => [(1, .pointer (some ⟨b1, 0, none⟩)), (4, .slice A1 (vclean vec).length c1), (5, .slice A2 (tnorm turns).length c2), (6, .bool (decide (0 < vec.length + turns.length))), (7, .slice (some ⟨b2, 0, none⟩) 1 1), (8, .bool q)]) (fun q m => (q = true ↔ (vec.length + turns.length = 0 ∧ c = 0 ∧ room = [] ∧ b.length ≤ 1048576 ∧ n ≤ 9007199254740991) ∧ n = 0) ∧ Tr m0 PP X m [ownA [b2] 5 1 (.slice (some ⟨b2, 0, none⟩) 1 1) ([UInt8.ofNat 5]).length (u8s ([UInt8.ofNat 5])), blkA b1 27 [.int .i64 5, .int .u64 c, .int .u64 n, .string (str room), .slice vA vec.length vc, .slice tA turns.length tc, .slice bA b.length bc], roA 2 (.slice A1 (vclean vec).length c1) ((vclean vec).flatMap cC), roA 4 (.slice A2 (tnorm turns).length c2) ((tnorm turns).flatMap tC), roA 1 (.slice bA b.length bc) (u8s b)]) ?_ ?_
   · (with_reducible repeat (first | refine WP.S1 ?_ | refine WP.B1 ?_ | refine WP.R1 ?_))
     refine RL.pure T_ok 1 rfl ?_
     refine RL.loadM T_ok hS rfl rfl rfl (by with_reducible repeat (first | exact zS .. | apply zO)) (by rfl) (by rfl) ?_
     refine RL.A1 T_ok rfl ?_
     refine RL.N1 ?_; (with_reducible repeat (first | refine QN.B1 ?_ | refine QN.N1 ?_))
     refine WP.condF rfl ?_
     (with_reducible repeat (first | refine WP.S1 ?_ | refine WP.B1 ?_ | refine WP.R1 ?_))
     cases q
     · refine RL.A1 T_ok rfl ?_
       exact RL.N1 (QN.cutEnd false (Sub.C1 rfl (Sub.C1 rfl (Sub.C1 rfl (Sub.C1 rfl (Sub.C1 rfl (Sub.C1 rfl Sub.nil)))))) ⟨⟨(by intro h; cases h), fun h => absurd (hA.2 h.1) (by decide)⟩, hS⟩)
     have hA := hA.1 rfl
     refine RL.pure T_ok 3 rfl ?_
     refine RL.loadM T_ok hS rfl rfl rfl (by with_reducible repeat (first | exact zS .. | apply zO)) (by rfl) (by rfl) ?_
     refine RL.pure T_ok 1 rfl ?_
     by_cases g0 : n = 0
     rotate_left
     · refine RL.eqv (v' := .bool false) (zV (bF (by omega))) ?_
       refine RL.A1 T_ok rfl ?_
       exact RL.N1 (QN.cutEnd false (Sub.C1 rfl (Sub.C1 rfl (Sub.C1 rfl (Sub.C1 rfl (Sub.C1 rfl (Sub.C1 rfl Sub.nil)))))) ⟨⟨(by intro h; cases h), fun h => absurd (h.2) g0⟩, hS⟩)
     refine RL.eqv (v' := .bool true) (zV (beq_iff_eq.2 (by omega))) ?_
     refine RL.A1 T_ok rfl ?_
     exact RL.N1 (QN.cutEnd true (Sub.C1 rfl (Sub.C1 rfl (Sub.C1 rfl (Sub.C1 rfl (Sub.C1 rfl (Sub.C1 rfl Sub.nil)))))) ⟨⟨fun _ => ⟨hA, g0⟩, fun _ => rfl⟩, hS⟩)
   clear hS hA
   rintro q m ⟨hA, hS⟩
   (with_reducible repeat (first | refine WP.S1 ?_ | refine WP.B1 ?_ | refine WP.R1 ?_))
   refine RL.pure T_ok 2 rfl ?_
   refine RL.loadM T_ok hS rfl rfl rfl (by with_reducible repeat (first | exact zS .. | apply zO)) (by rfl) (by rfl) ?_
   refine RL.bytesString T_ok (hS.mem (A := roA 1 (.slice bA b.length bc) (u8s b)) (by with_reducible repeat (first | exact zS .. | apply zO))).1 rfl rfl rfl rfl rfl rfl ?_
   refine RL.callM (fi := []) (ca := []) hS (reftext_s b (by omega) [b2] _ [UInt8.ofNat 5] (by simp only [List.length_cons, List.length_nil]; omega)) rfl rfl rfl rfl (by repeat (first | exact Sels.nil | apply Sels.ro (by with_reducible repeat (first | exact zS .. | apply zO)) (by rfl) | apply Sels.own (by with_reducible repeat (first | exact Sel.head | apply Sel.tail)))) ?_
   (try clear hS); rintro w2 m _ ⟨S6, rfl⟩ hS; (try simp only [zC, zN] at hS); refine ⟨_, rfl, ?_⟩
   refine RL.A1 T_ok rfl ?_
   refine RL.N1 ?_
   (with_reducible repeat (first | refine QN.B1 ?_))
   refine QN.cutEnd (q, w2, S6, _) (Sub.C1 rfl (Sub.C1 rfl Sub.nil)) ⟨hA.trans ok5_iff.symm, fun hq => ?_, Tr.drop (H := [_]) hS⟩
   show _ = Msg.enc _
   simp [Msg.enc]
 by_cases k4 : K = 4
 · subst k4
   obtain rfl := byte_is hkw 4 (by omega) rfl
   (with_reducible repeat (first | refine WP.S1 ?_ | refine WP.B1 ?_ | refine WP.R1 ?_))
   refine RL.pure T_ok 1 rfl ?_
   refine RL.loadM T_ok hS rfl rfl rfl (by with_reducible repeat (first | exact zS .. | apply zO)) (by rfl) (by rfl) ?_
   refine RL.N1 ?_; (with_reducible repeat (first | refine QN.B1 ?_ | refine QN.N1 ?_))
   (with_reducible repeat (first | refine WP.S1 ?_ | refine WP.B1 ?_ | refine WP.R1 ?_))
   refine RL.A1 T_ok rfl ?_
   refine RL.N1 ?_; (with_reducible repeat (first | refine QN.B1 ?_ | refine QN.N1 ?_))
   refine WP.condF rfl ?_
   (with_reducible repeat (first | refine WP.S1 ?_ | refine WP.B1 ?_ | refine WP.R1 ?_))
   refine RL.A1 T_ok rfl ?_
   refine RL.N1 ?_; (with_reducible repeat (first | refine QN.B1 ?_ | refine QN.N1 ?_))
   refine WP.condF rfl ?_
   (with_reducible repeat (first | refine WP.S1 ?_ | refine WP.B1 ?_ | refine WP.R1 ?_))
   refine RL.A1 T_ok rfl ?_
   refine RL.N1 ?_; (with_reducible repeat (first | refine QN.B1 ?_ | refine QN.N1 ?_))
   refine WP.condF rfl ?_
   (with_reducible repeat (first | refine WP.S1 ?_ | refine WP.B1 ?_ | refine WP.R1 ?_))
   refine RL.A1 T_ok rfl ?_
   refine RL.N1 ?_; (with_reducible repeat (first | refine QN.B1 ?_ | refine QN.N1 ?_))
   refine WP.condF rfl ?_
   (with_reducible repeat (first | refine WP.S1 ?_ | refine WP.B1 ?_ | refine WP.R1 ?_))
   refine RL.A1 T_ok rfl ?_
   refine RL.N1 ?_; (with_reducible repeat (first | refine QN.B1 ?_ | refine QN.N1 ?_))
   refine WP.condT rfl ?_
   refine WP.skip ?_; (with_reducible repeat (first | refine QN.B1 ?_ | refine QN.N1 ?_))
   refine WP.condT rfl ?_
   refine WP.cut (X := Bool) (fun q => [(1, .pointer (some ⟨b1, 0, none⟩)), (4, .slice A1 (vclean vec).length c1), (5, .slice A2 (tnorm turns).length c2), (6, .bool (decide (0 < vec.length + turns.length))), (7, .slice (some ⟨b2, 0, none⟩) 1 1), (8, .bool q)]) (fun q m => (q = true ↔ vec.length + turns.length = 0 ∧ c = 0 ∧ room = [] ∧ b.length = 0 ∧ 1 ≤ n ∧ n ≤ 9007199254740991) ∧ Tr m0 PP X m [ownA [b2] 5 1 (.slice (some ⟨b2, 0, none⟩) 1 1) ([UInt8.ofNat 4]).length (u8s ([UInt8.ofNat 4])), blkA b1 27 [.int .i64 4, .int .u64 c, .int .u64 n, .string (str room), .slice vA vec.length vc, .slice tA turns.length tc, .slice bA b.length bc], roA 2 (.slice A1 (vclean vec).length c1) ((vclean vec).flatMap cC), roA 4 (.slice A2 (tnorm turns).length c2) ((tnorm turns).flatMap tC), roA 1 (.slice bA b.length bc) (u8s b)]) ?_ ?_
   · skip
     (with_reducible repeat (first | refine WP.S1 ?_ | refine WP.B1 ?_ | refine WP.R1 ?_))
     refine RL.pure T_ok 2 rfl ?_
     by_cases g0 : vec.length + turns.length = 0
     rotate_left
     · refine RL.eqv (v' := .bool false) (zV (by rw [dT (by omega)]; rfl)) ?_
       refine RL.A1 T_ok rfl ?_
       exact RL.N1 (QN.cutEnd false (Sub.C1 rfl (Sub.C1 rfl (Sub.C1 rfl (Sub.C1 rfl (Sub.C1 rfl (Sub.C1 rfl Sub.nil)))))) ⟨⟨(by intro h; cases h), fun h => absurd (h.1) g0⟩, hS⟩)
     refine RL.eqv (v' := .bool true) (zV (by rw [dF (by omega)]; rfl)) ?_
     refine RL.pure T_ok 2 rfl ?_
     refine RL.loadM T_ok hS rfl rfl rfl (by with_reducible repeat (first | exact zS .. | apply zO)) (by rfl) (by rfl) ?_
     refine RL.pure T_ok 1 rfl ?_
     by_cases g1 : c = 0
     rotate_left
     · refine RL.eqv (v' := .bool false) (zV (bF (by omega))) ?_
       refine RL.A1 T_ok rfl ?_
       exact RL.N1 (QN.cutEnd false (Sub.C1 rfl (Sub.C1 rfl (Sub.C1 rfl (Sub.C1 rfl (Sub.C1 rfl (Sub.C1 rfl Sub.nil)))))) ⟨⟨(by intro h; cases h), fun h => absurd (h.2.1) g1⟩, hS⟩)
     refine RL.eqv (v' := .bool true) (zV (beq_iff_eq.2 (by omega))) ?_
     refine RL.pure T_ok 3 rfl ?_
     refine RL.loadM T_ok hS rfl rfl rfl (by with_reducible repeat (first | exact zS .. | apply zO)) (by rfl) (by rfl) ?_
     refine RL.pure T_ok 1 rfl ?_
     by_cases g2 : room = []
     rotate_left
     · refine RL.eqv (v' := .bool false) (zV ((str_eq _ []).trans (dF g2))) ?_
       refine RL.A1 T_ok rfl ?_
       exact RL.N1 (QN.cutEnd false (Sub.C1 rfl (Sub.C1 rfl (Sub.C1 rfl (Sub.C1 rfl (Sub.C1 rfl (Sub.C1 rfl Sub.nil)))))) ⟨⟨(by intro h; cases h), fun h => absurd (h.2.2.1) g2⟩, hS⟩)
     refine RL.eqv (v' := .bool true) (zV ((str_eq _ []).trans (dT g2))) ?_
     refine RL.pure T_ok 3 rfl ?_
     refine RL.loadM T_ok hS rfl rfl rfl (by with_reducible repeat (first | exact zS .. | apply zO)) (by rfl) (by rfl) ?_
     refine RL.pure T_ok 2 rfl ?_
     by_cases g3 : b.length = 0
     rotate_left
     · refine RL.eqv (v' := .bool false) (zV (bF (by omega))) ?_
       refine RL.A1 T_ok rfl ?_
       exact RL.N1 (QN.cutEnd false (Sub.C1 rfl (Sub.C1 rfl (Sub.C1 rfl (Sub.C1 rfl (Sub.C1 rfl (Sub.C1 rfl Sub.nil)))))) ⟨⟨(by intro h; cases h), fun h => absurd (h.2.2.2.1) g3⟩, hS⟩)
     refine RL.eqv (v' := .bool true) (zV (beq_iff_eq.2 (by omega))) ?_
     refine RL.pure T_ok 3 rfl ?_
     refine RL.loadM T_ok hS rfl rfl rfl (by with_reducible repeat (first | exact zS .. | apply zO)) (by rfl) (by rfl) ?_
     refine RL.pure T_ok 1 rfl ?_
     by_cases g4 : 1 ≤ n
     rotate_left
     · refine RL.eqv (v' := .bool false) (zV (dF (by omega))) ?_
       refine RL.A1 T_ok rfl ?_
       exact RL.N1 (QN.cutEnd false (Sub.C1 rfl (Sub.C1 rfl (Sub.C1 rfl (Sub.C1 rfl (Sub.C1 rfl (Sub.C1 rfl Sub.nil)))))) ⟨⟨(by intro h; cases h), fun h => absurd (h.2.2.2.2.1) g4⟩, hS⟩)
     refine RL.eqv (v' := .bool true) (zV (dT (by omega))) ?_
     refine RL.pure T_ok 3 rfl ?_
     refine RL.loadM T_ok hS rfl rfl rfl (by with_reducible repeat (first | exact zS .. | apply zO)) (by rfl) (by rfl) ?_
     refine RL.pure T_ok 1 rfl ?_
     by_cases g5 : n ≤ 9007199254740991
     rotate_left
     · refine RL.eqv (v' := .bool false) (zV (dF (by omega))) ?_
       refine RL.A1 T_ok rfl ?_
       exact RL.N1 (QN.cutEnd false (Sub.C1 rfl (Sub.C1 rfl (Sub.C1 rfl (Sub.C1 rfl (Sub.C1 rfl (Sub.C1 rfl Sub.nil)))))) ⟨⟨(by intro h; cases h), fun h => absurd (h.2.2.2.2.2) g5⟩, hS⟩)
     refine RL.eqv (v' := .bool true) (zV (dT (by omega))) ?_
     refine RL.A1 T_ok rfl ?_
     exact RL.N1 (QN.cutEnd true (Sub.C1 rfl (Sub.C1 rfl (Sub.C1 rfl (Sub.C1 rfl (Sub.C1 rfl (Sub.C1 rfl Sub.nil)))))) ⟨⟨fun _ => ⟨g0, g1, g2, g3, g4, g5⟩, fun _ => rfl⟩, hS⟩)
   clear hS
   rintro q m ⟨hA, hS⟩
   have q1 := encU_len10 (n := n) (by omega)
   (with_reducible repeat (first | refine WP.S1 ?_ | refine WP.B1 ?_ | refine WP.R1 ?_))
   refine RL.pure T_ok 2 rfl ?_
   refine RL.loadM T_ok hS rfl rfl rfl (by with_reducible repeat (first | exact zS .. | apply zO)) (by rfl) (by rfl) ?_
   refine RL.callM (fi := []) (ca := []) hS (refuint_s n (by omega) [b2] _ [UInt8.ofNat 4] (by simp)) rfl rfl rfl rfl (by repeat (first | exact Sels.nil | apply Sels.ro (by with_reducible repeat (first | exact zS .. | apply zO)) (by rfl) | apply Sels.own (by with_reducible repeat (first | exact Sel.head | apply Sel.tail)))) ?_
   (try clear hS); rintro w2 m _ ⟨S6, rfl⟩ hS; (try simp only [zC, zN] at hS); refine ⟨_, rfl, ?_⟩
   refine RL.A1 T_ok rfl ?_
   refine RL.N1 ?_
   (with_reducible repeat (first | refine QN.B1 ?_))
   refine QN.cutEnd (q, w2, S6, _) (Sub.C1 rfl (Sub.C1 rfl Sub.nil)) ⟨hA.trans (ok46_iff (by omega)).symm, fun hq => ?_, Tr.drop (H := [_]) hS⟩
   show _ = Msg.enc _
   simp [Msg.enc]
 by_cases k6 : K = 6
 · subst k6
   obtain rfl := byte_is hkw 6 (by omega) rfl
   (with_reducible repeat (first | refine WP.S1 ?_ | refine WP.B1 ?_ | refine WP.R1 ?_))
   refine RL.pure T_ok 1 rfl ?_
   refine RL.loadM T_ok hS rfl rfl rfl (by with_reducible repeat (first | exact zS .. | apply zO)) (by rfl) (by rfl) ?_
   refine RL.N1 ?_; (with_reducible repeat (first | refine QN.B1 ?_ | refine QN.N1 ?_))
   (with_reducible repeat (first | refine WP.S1 ?_ | refine WP.B1 ?_ | refine WP.R1 ?_))
   refine RL.A1 T_ok rfl ?_
   refine RL.N1 ?_; (with_reducible repeat (first | refine QN.B1 ?_ | refine QN.N1 ?_))
   refine WP.condF rfl ?_
   (with_reducible repeat (first | refine WP.S1 ?_ | refine WP.B1 ?_ | refine WP.R1 ?_))
   refine RL.A1 T_ok rfl ?_
   refine RL.N1 ?_; (with_reducible repeat (first | refine QN.B1 ?_ | refine QN.N1 ?_))
   refine WP.condF rfl ?_
   (with_reducible repeat (first | refine WP.S1 ?_ | refine WP.B1 ?_ | refine WP.R1 ?_))
   refine RL.A1 T_ok rfl ?_
   refine RL.N1 ?_; (with_reducible repeat (first | refine QN.B1 ?_ | refine QN.N1 ?_))
   refine WP.condF rfl ?_
   (with_reducible repeat (first | refine WP.S1 ?_ | refine WP.B1 ?_ | refine WP.R1 ?_))
   refine RL.A1 T_ok rfl ?_
   refine RL.N1 ?_; (with_reducible repeat (first | refine QN.B1 ?_ | refine QN.N1 ?_))
   refine WP.condF rfl ?_
   (with_reducible repeat (first | refine WP.S1 ?_ | refine WP.B1 ?_ | refine WP.R1 ?_))
   refine RL.A1 T_ok rfl ?_
   refine RL.N1 ?_; (with_reducible repeat (first | refine QN.B1 ?_ | refine QN.N1 ?_))
   refine WP.condF rfl ?_
   (with_reducible repeat (first | refine WP.S1 ?_ | refine WP.B1 ?_ | refine WP.R1 ?_))
   refine RL.A1 T_ok rfl ?_
   refine RL.N1 ?_; (with_reducible repeat (first | refine QN.B1 ?_ | refine QN.N1 ?_))
   refine WP.condT rfl ?_
   refine WP.cut (X := Bool) (fun q => [(1, .pointer (some ⟨b1, 0, none⟩)), (4, .slice A1 (vclean vec).length c1), (5, .slice A2 (tnorm turns).length c2), (6, .bool (decide (0 < vec.length + turns.length))), (7, .slice (some ⟨b2, 0, none⟩) 1 1), (8, .bool q)]) (fun q m => (q = true ↔ vec.length + turns.length = 0 ∧ c = 0 ∧ room = [] ∧ b.length = 0 ∧ 1 ≤ n ∧ n ≤ 9007199254740991) ∧ Tr m0 PP X m [ownA [b2] 5 1 (.slice (some ⟨b2, 0, none⟩) 1 1) ([UInt8.ofNat 6]).length (u8s ([UInt8.ofNat 6])), blkA b1 27 [.int .i64 6, .int .u64 c, .int .u64 n, .string (str room), .slice vA vec.length vc, .slice tA turns.length tc, .slice bA b.length bc], roA 2 (.slice A1 (vclean vec).length c1) ((vclean vec).flatMap cC), roA 4 (.slice A2 (tnorm turns).length c2) ((tnorm turns).flatMap tC), roA 1 (.slice bA b.length bc) (u8s b)]) ?_ ?_
   · skip
     (with_reducible repeat (first | refine WP.S1 ?_ | refine WP.B1 ?_ | refine WP.R1 ?_))
     refine RL.pure T_ok 2 rfl ?_
     by_cases g0 : vec.length + turns.length = 0
     rotate_left
     · refine RL.eqv (v' := .bool false) (zV (by rw [dT (by omega)]; rfl)) ?_
       refine RL.A1 T_ok rfl ?_
       exact RL.N1 (QN.cutEnd false (Sub.C1 rfl (Sub.C1 rfl (Sub.C1 rfl (Sub.C1 rfl (Sub.C1 rfl (Sub.C1 rfl Sub.nil)))))) ⟨⟨(by intro h; cases h), fun h => absurd (h.1) g0⟩, hS⟩)
     refine RL.eqv (v' := .bool true) (zV (by rw [dF (by omega)]; rfl)) ?_
     refine RL.pure T_ok 2 rfl ?_
     refine RL.loadM T_ok hS rfl rfl rfl (by with_reducible repeat (first | exact zS .. | apply zO)) (by rfl) (by rfl) ?_
     refine RL.pure T_ok 1 rfl ?_
     by_cases g1 : c = 0
     rotate_left
     · refine RL.eqv (v' := .bool false) (zV (bF (by omega))) ?_
       refine RL.A1 T_ok rfl ?_
       exact RL.N1 (QN.cutEnd false (Sub.C1 rfl (Sub.C1 rfl (Sub.C1 rfl (Sub.C1 rfl (Sub.C1 rfl (Sub.C1 rfl Sub.nil)))))) ⟨⟨(by intro h; cases h), fun h => absurd (h.2.1) g1⟩, hS⟩)
     refine RL.eqv (v' := .bool true) (zV (beq_iff_eq.2 (by omega))) ?_
     refine RL.pure T_ok 3 rfl ?_
     refine RL.loadM T_ok hS rfl rfl rfl (by with_reducible repeat (first | exact zS .. | apply zO)) (by rfl) (by rfl) ?_
     refine RL.pure T_ok 1 rfl ?_
     by_cases g2 : room = []
     rotate_left
     · refine RL.eqv (v' := .bool false) (zV ((str_eq _ []).trans (dF g2))) ?_
       refine RL.A1 T_ok rfl ?_
       exact RL.N1 (QN.cutEnd false (Sub.C1 rfl (Sub.C1 rfl (Sub.C1 rfl (Sub.C1 rfl (Sub.C1 rfl (Sub.C1 rfl Sub.nil)))))) ⟨⟨(by intro h; cases h), fun h => absurd (h.2.2.1) g2⟩, hS⟩)
     refine RL.eqv (v' := .bool true) (zV ((str_eq _ []).trans (dT g2))) ?_
     refine RL.pure T_ok 3 rfl ?_
     refine RL.loadM T_ok hS rfl rfl rfl (by with_reducible repeat (first | exact zS .. | apply zO)) (by rfl) (by rfl) ?_
     refine RL.pure T_ok 2 rfl ?_
     by_cases g3 : b.length = 0
     rotate_left
     · refine RL.eqv (v' := .bool false) (zV (bF (by omega))) ?_
       refine RL.A1 T_ok rfl ?_
       exact RL.N1 (QN.cutEnd false (Sub.C1 rfl (Sub.C1 rfl (Sub.C1 rfl (Sub.C1 rfl (Sub.C1 rfl (Sub.C1 rfl Sub.nil)))))) ⟨⟨(by intro h; cases h), fun h => absurd (h.2.2.2.1) g3⟩, hS⟩)
     refine RL.eqv (v' := .bool true) (zV (beq_iff_eq.2 (by omega))) ?_
     refine RL.pure T_ok 3 rfl ?_
     refine RL.loadM T_ok hS rfl rfl rfl (by with_reducible repeat (first | exact zS .. | apply zO)) (by rfl) (by rfl) ?_
     refine RL.pure T_ok 1 rfl ?_
     by_cases g4 : 1 ≤ n
     rotate_left
     · refine RL.eqv (v' := .bool false) (zV (dF (by omega))) ?_
       refine RL.A1 T_ok rfl ?_
       exact RL.N1 (QN.cutEnd false (Sub.C1 rfl (Sub.C1 rfl (Sub.C1 rfl (Sub.C1 rfl (Sub.C1 rfl (Sub.C1 rfl Sub.nil)))))) ⟨⟨(by intro h; cases h), fun h => absurd (h.2.2.2.2.1) g4⟩, hS⟩)
     refine RL.eqv (v' := .bool true) (zV (dT (by omega))) ?_
     refine RL.pure T_ok 3 rfl ?_
     refine RL.loadM T_ok hS rfl rfl rfl (by with_reducible repeat (first | exact zS .. | apply zO)) (by rfl) (by rfl) ?_
     refine RL.pure T_ok 1 rfl ?_
     by_cases g5 : n ≤ 9007199254740991
     rotate_left
     · refine RL.eqv (v' := .bool false) (zV (dF (by omega))) ?_
       refine RL.A1 T_ok rfl ?_
       exact RL.N1 (QN.cutEnd false (Sub.C1 rfl (Sub.C1 rfl (Sub.C1 rfl (Sub.C1 rfl (Sub.C1 rfl (Sub.C1 rfl Sub.nil)))))) ⟨⟨(by intro h; cases h), fun h => absurd (h.2.2.2.2.2) g5⟩, hS⟩)
     refine RL.eqv (v' := .bool true) (zV (dT (by omega))) ?_
     refine RL.A1 T_ok rfl ?_
     exact RL.N1 (QN.cutEnd true (Sub.C1 rfl (Sub.C1 rfl (Sub.C1 rfl (Sub.C1 rfl (Sub.C1 rfl (Sub.C1 rfl Sub.nil)))))) ⟨⟨fun _ => ⟨g0, g1, g2, g3, g4, g5⟩, fun _ => rfl⟩, hS⟩)
   clear hS
   rintro q m ⟨hA, hS⟩
   have q1 := encU_len10 (n := n) (by omega)
   (with_reducible repeat (first | refine WP.S1 ?_ | refine WP.B1 ?_ | refine WP.R1 ?_))
   refine RL.pure T_ok 2 rfl ?_
   refine RL.loadM T_ok hS rfl rfl rfl (by with_reducible repeat (first | exact zS .. | apply zO)) (by rfl) (by rfl) ?_
   refine RL.callM (fi := []) (ca := []) hS (refuint_s n (by omega) [b2] _ [UInt8.ofNat 6] (by simp)) rfl rfl rfl rfl (by repeat (first | exact Sels.nil | apply Sels.ro (by with_reducible repeat (first | exact zS .. | apply zO)) (by rfl) | apply Sels.own (by with_reducible repeat (first | exact Sel.head | apply Sel.tail)))) ?_
   (try clear hS); rintro w2 m _ ⟨S6, rfl⟩ hS; (try simp only [zC, zN] at hS); refine ⟨_, rfl, ?_⟩
   refine RL.A1 T_ok rfl ?_
   refine RL.N1 ?_
   (with_reducible repeat (first | refine QN.B1 ?_))
   refine QN.cutEnd (q, w2, S6, _) (Sub.C1 rfl (Sub.C1 rfl Sub.nil)) ⟨hA.trans (ok46_iff (by omega)).symm, fun hq => ?_, Tr.drop (H := [_]) hS⟩
   show _ = Msg.enc _
   simp [Msg.enc]
 (with_reducible repeat (first | refine WP.S1 ?_ | refine WP.B1 ?_ | refine WP.R1 ?_))
 refine RL.pure T_ok 1 rfl ?_
 refine RL.loadM T_ok hS rfl rfl rfl (by with_reducible repeat (first | exact zS .. | apply zO)) (by rfl) (by rfl) ?_
 refine RL.N1 ?_; (with_reducible repeat (first | refine QN.B1 ?_ | refine QN.N1 ?_))
 (with_reducible repeat (first | refine WP.S1 ?_ | refine WP.B1 ?_ | refine WP.R1 ?_))
 refine RL.pure T_ok 1 rfl ?_
 refine RL.eqv (v' := .bool false) (zV (bF k1)) ?_
 refine RL.A1 T_ok rfl ?_
 refine RL.N1 ?_; (with_reducible repeat (first | refine QN.B1 ?_ | refine QN.N1 ?_))
 refine WP.condF rfl ?_
 (with_reducible repeat (first | refine WP.S1 ?_ | refine WP.B1 ?_ | refine WP.R1 ?_))
 refine RL.pure T_ok 1 rfl ?_
 refine RL.eqv (v' := .bool false) (zV (bF k2)) ?_
 refine RL.A1 T_ok rfl ?_
 refine RL.N1 ?_; (with_reducible repeat (first | refine QN.B1 ?_ | refine QN.N1 ?_))
 refine WP.condF rfl ?_
 (with_reducible repeat (first | refine WP.S1 ?_ | refine WP.B1 ?_ | refine WP.R1 ?_))
 refine RL.pure T_ok 1 rfl ?_
 refine RL.eqv (v' := .bool false) (zV (bF k3)) ?_
 refine RL.A1 T_ok rfl ?_
 refine RL.N1 ?_; (with_reducible repeat (first | refine QN.B1 ?_ | refine QN.N1 ?_))
 refine WP.condF rfl ?_
 (with_reducible repeat (first | refine WP.S1 ?_ | refine WP.B1 ?_ | refine WP.R1 ?_))
 refine RL.pure T_ok 1 rfl ?_
 refine RL.eqv (v' := .bool false) (zV (bF k5)) ?_
 refine RL.A1 T_ok rfl ?_
 refine RL.N1 ?_; (with_reducible repeat (first | refine QN.B1 ?_ | refine QN.N1 ?_))
 refine WP.condF rfl ?_
 (with_reducible repeat (first | refine WP.S1 ?_ | refine WP.B1 ?_ | refine WP.R1 ?_))
 refine RL.pure T_ok 1 rfl ?_
 refine RL.eqv (v' := .bool false) (zV (bF k4)) ?_
 refine RL.A1 T_ok rfl ?_
 refine RL.N1 ?_; (with_reducible repeat (first | refine QN.B1 ?_ | refine QN.N1 ?_))
 refine WP.condF rfl ?_
 (with_reducible repeat (first | refine WP.S1 ?_ | refine WP.B1 ?_ | refine WP.R1 ?_))
 refine RL.pure T_ok 1 rfl ?_
 refine RL.eqv (v' := .bool false) (zV (bF k6)) ?_
 refine RL.A1 T_ok rfl ?_
 refine RL.N1 ?_; (with_reducible repeat (first | refine QN.B1 ?_ | refine QN.N1 ?_))
 refine WP.condF rfl ?_
 refine WP.skip ?_; (with_reducible repeat (first | refine QN.B1 ?_ | refine QN.N1 ?_))
 exact QN.cutEnd (false, _, _, [kb]) (Sub.C1 rfl (Sub.C1 rfl Sub.nil)) ⟨⟨(by intro h; cases h), fun h => absurd h (ok0_iff k1 k2 k3 k4 k5 k6)⟩, fun h => (by cases h), Tr.drop (H := [_]) hS⟩
end Go.Proofs.YtmjpcaiehfimgaaGreatDoor
end
section
namespace Go.Proofs.YtmjpcaiehfimgaaGreatDoor
open Go.RowKit Go.Ev Go.Ids
theorem Tr.qreader {m0 m : World} {M0 X : List Nat} {H : List Asn} {b : Nat} {v : Value} {l : List UInt8} (h : Tr m0 M0 X m (blkA b 76 [v, .int .i64 0] :: H)) (hv : roA 1 v (u8s l) ∈ H) : Tr m0 M0 X m (qdA b l 0 :: H) :=
 h.turn (B := qdA b l 0) (fun hP => ⟨v, hP, (h.mem (zO _ hv)).1⟩) (fun _ hk => hk) (by simp [qdA])
theorem readQ_rd (l : List UInt8) : readQ txt l = match rdAll (rdQ (l, 0)) with
   | none => none
   | some g => if g.ok txt = true ∧ g.enc = l then some g else none := by
 unfold readQ told rdAll
 rcases rdQ (l, 0) with _ | ⟨g, l', e⟩
 · rfl
 · dsimp only
   by_cases h : e = 0 ∧ l' = []
   · rw [if_pos h]
     dsimp only
     by_cases h2 : g.ok txt = true ∧ g.enc = l
     · rw [if_pos h2, if_pos ⟨h.1, h.2, h2.1, h2.2⟩]
     · rw [if_neg h2, if_neg (fun hh => h2 ⟨hh.2.2.1, hh.2.2.2⟩)]
   · rw [if_neg h, if_neg (fun hh => h ⟨hh.1, hh.2.1⟩)]
set_option maxRecDepth 20000 in
theorem refread_s (v : Value) (l0 : List UInt8) (hl : l0.length ≤ 3000) : DoS Tryz.prog 16 [v] [roA 1 v (u8s l0)] (ReadP (readQ txt l0)) := by
 intro m0 X hS
 obtain ⟨PP, hP⟩ : ∃ PP, ofps [roA 1 v (u8s l0)] = PP := ⟨_, rfl⟩
 rw [hP] at hS ⊢
 clear hP
 rw [readQ_rd]
 obtain ⟨R, hR⟩ : ∃ R, rdQ (l0, 0) = R := ⟨_, rfl⟩
 have hsm : ∀ g s, R = some (g, s) → g.Small := fun g s h => rdQ_small hl (hR.trans h)
 rw [hR]
 unfold rdQ at hR
 obtain ⟨vA, vc, rfl, _⟩ := Bs.shape (hS.mem (A := roA 1 v (u8s l0)) (by simp)).1
 refine FnE.enter ⟨_, Tryz.func16, by kernel_rfl, by kernel_rfl⟩ Tryz.func16 rfl rfl ?_
 (with_reducible repeat (first | refine WP.S1 ?_ | refine WP.B1 ?_ | refine WP.R1 ?_))
 refine RL.allocS T_ok rfl hS rfl rfl ?_; (try clear hS); intro b2 m hS; refine ⟨_, rfl, ?_⟩
 refine RL.A1 T_ok rfl ?_
 refine RL.N1 ?_; (with_reducible repeat (first | refine QN.B1 ?_ | refine QN.N1 ?_ | refine WP.S1 ?_ | refine WP.B1 ?_ | refine WP.R1 ?_))
 refine RL.pure T_ok 2 rfl ?_
 refine RL.boxS hS rfl rfl rfl ?_; (try clear hS); intro bq m hS; refine ⟨_, rfl, ?_⟩
 have hS := Tr.qreader hS (l := l0) (by repeat (first | exact zS .. | with_reducible apply zO))
 refine RL.A1 T_ok rfl ?_
 refine RL.N1 ?_; (with_reducible repeat (first | refine QN.B1 ?_ | refine QN.N1 ?_ | refine WP.S1 ?_ | refine WP.B1 ?_ | refine WP.R1 ?_))
 refine RL.A1 T_ok rfl ?_
 refine RL.callM (fi := []) (ca := []) hS (qbyte_s bq l0 0) rfl rfl rfl rfl (by repeat (first | exact Sels.nil | apply Sels.ro (by with_reducible repeat (first | exact zS .. | apply zO)) (by rfl) | apply Sels.own (by with_reducible repeat (first | exact Sel.head | apply Sel.tail)))) ?_
 (try clear hS); rintro _ m _ ⟨rfl, rfl⟩ hS; (try simp only [zC, zN] at hS); refine ⟨_, rfl, ?_⟩
 have hl1 := rdB_len' (l0, 0)
 obtain ⟨q, hq⟩ : ∃ q, rdB (l0, 0) = q := ⟨_, rfl⟩
 rw [hq] at hS hl1 hR ⊢
 clear hq
 obtain ⟨k, l1, e1⟩ := q
 dsimp only at hR hS hl1 ⊢
 have hk := k.toNat_lt
 refine RL.pure T_ok 1 rfl ?_
 refine RL.eqv (v' := .int .i64 (k.toNat : Nat)) (zV (wrap_i64_in _ (by omega) (by omega))) ?_
 refine RL.A1 T_ok rfl ?_
 refine RL.allocS T_ok rfl hS rfl rfl ?_; (try clear hS); intro b3 m hS; refine ⟨_, rfl, ?_⟩
 refine RL.ssM T_ok hS rfl rfl rfl rfl rfl (by rfl) (by rfl) (by with_reducible repeat (first | exact Rep.head | apply Rep.tail)) (by rfl) ?_; (try clear hS); intro m hS
 change Tr m0 PP X m (blkA b3 27 [.int .i64 (k.toNat : Nat), .int .u64 0, .int .u64 0, .string (str []), .slice none 0 0, .slice none 0 0, .slice none 0 0] :: _) at hS
 refine RL.N1 ?_
 (with_reducible repeat (first | refine QN.B1 ?_ | refine QN.N1 ?_))
 have bad : ∀ m H, R = none → Tr m0 PP X m H → ∃ H', ReadP (match rdAll R with | none => none | some g => if g.ok txt = true ∧ g.enc = l0 then some g else none) (.tuple #[.agg zM.toArray, .int .i64 230]) H' ∧ Tr m0 PP X m H' := fun m H h hS => ⟨[], by subst h; exact ⟨rfl, rfl⟩, Tr.drop (H := []) hS⟩
 -- what is read, and what is left
 refine WP.cut (X := Msg × List UInt8 × Int × Value × Value × Value) (fun q => [(0, .slice vA l0.length vc), (2, .pointer (some ⟨b2, 0, none⟩)), (3, .int .i64 0), (4, .pointer (some ⟨bq, 0, none⟩)), (5, .pointer (some ⟨b3, 0, none⟩))])
   (fun q m => R = some (q.1, q.2.1, q.2.2.1) ∧ Tr m0 PP X m ([qdA bq q.2.1 q.2.2.1, blkA b3 27 (mC q.1 q.2.2.2.1 q.2.2.2.2.1 q.2.2.2.2.2), blkA b2 27 zM, roA 1 (.slice vA l0.length vc) (u8s l0)] ++ mR q.1 q.2.2.2.1 q.2.2.2.2.1 q.2.2.2.2.2)) ?_ ?_
 rotate_left
 · clear bad hR
   rintro ⟨g, l, e, vv, tv, bv⟩ m ⟨hq, hS⟩
   dsimp only at hq hS ⊢
   have hg := hsm g _ hq
   subst hq
   simp only [mR, zC, zN] at hS
   have bad : ∀ m H, ¬ ((e = 0 ∧ l = []) ∧ g.ok txt = true ∧ g.enc = l0) → Tr m0 PP X m H → ∃ H', ReadP (match rdAll (some (g, l, e)) with | none => none | some g => if g.ok txt = true ∧ g.enc = l0 then some g else none) (.tuple #[.agg zM.toArray, .int .i64 230]) H' ∧ Tr m0 PP X m H' := fun m H h hS => ⟨[], by
     unfold rdAll
     dsimp only
     by_cases h1 : e = 0 ∧ l = []
     · rw [if_pos h1]
       dsimp only
       rw [if_neg (fun h2 => h ⟨h1, h2⟩)]
       exact ⟨rfl, rfl⟩
     · rw [if_neg h1]
       exact ⟨rfl, rfl⟩, Tr.drop (H := []) hS⟩
   (with_reducible repeat (first | refine WP.S1 ?_ | refine WP.B1 ?_ | refine WP.R1 ?_))
   obtain ⟨pv, hB, hBs⟩ := hS.mem (A := qdA bq l e) (by simp)
   obtain ⟨pA, pc, rfl, _⟩ := hBs.shape
   refine RL.A1 T_ok rfl ?_
   refine RL.load T_ok rfl rfl rfl (hB.cell 1 rfl) rfl ?_
   refine RL.pure T_ok 1 rfl ?_
   by_cases he : e = 0
   rotate_left
   · refine RL.eqv (v' := .bool true) (zV (by simp [he])) ?_
     refine RL.A1 T_ok rfl ?_
     refine RL.N1 ?_; (with_reducible repeat (first | refine QN.B1 ?_ | refine QN.N1 ?_ | refine WP.S1 ?_ | refine WP.B1 ?_ | refine WP.R1 ?_))
     refine WP.condT rfl ?_
     (with_reducible repeat (first | refine WP.S1 ?_ | refine WP.B1 ?_ | refine WP.R1 ?_))
     refine RL.A1 T_ok rfl ?_
     refine RL.ssM T_ok hS (vs := zM) rfl rfl rfl rfl rfl (by rfl) (by rfl) (by with_reducible repeat (first | exact Rep.head | apply Rep.tail)) (by rfl) ?_
     (try clear hS); intro m hS
     refine RL.A1 T_ok rfl ?_
     refine RL.N1 ?_; (with_reducible repeat (first | refine QN.B1 ?_ | refine QN.N1 ?_ | refine WP.S1 ?_ | refine WP.B1 ?_ | refine WP.R1 ?_))
     refine WP.ret ?_; (with_reducible repeat (first | refine QN.tr ?_ | refine QN.br ?_))
     obtain ⟨H', h1, h2⟩ := bad _ _ (fun h => he h.1.1) hS
     exact QN.retCT T_ok hS (cs := zM) rfl rfl rfl rfl (by repeat (first | exact zS .. | with_reducible apply zO)) ⟨_, rfl, H', h1, h2⟩
   refine RL.eqv (v' := .bool false) (zV (by simp [he])) ?_
   refine RL.A1 T_ok rfl ?_
   refine RL.load T_ok rfl rfl rfl (hB.cell 0 rfl) rfl ?_
   refine RL.pure T_ok 2 rfl ?_
   by_cases hl0 : l = []
   rotate_left
   · refine RL.eqv (v' := .bool true) (zV (dT (by have := List.length_pos_iff.2 hl0; omega))) ?_
     refine RL.A1 T_ok rfl ?_
     refine RL.N1 ?_; (with_reducible repeat (first | refine QN.B1 ?_ | refine QN.N1 ?_ | refine WP.S1 ?_ | refine WP.B1 ?_ | refine WP.R1 ?_))
     refine WP.condT rfl ?_
     (with_reducible repeat (first | refine WP.S1 ?_ | refine WP.B1 ?_ | refine WP.R1 ?_))
     refine RL.A1 T_ok rfl ?_
     refine RL.ssM T_ok hS (vs := zM) rfl rfl rfl rfl rfl (by rfl) (by rfl) (by with_reducible repeat (first | exact Rep.head | apply Rep.tail)) (by rfl) ?_
     (try clear hS); intro m hS
     refine RL.A1 T_ok rfl ?_
     refine RL.N1 ?_; (with_reducible repeat (first | refine QN.B1 ?_ | refine QN.N1 ?_ | refine WP.S1 ?_ | refine WP.B1 ?_ | refine WP.R1 ?_))
     refine WP.ret ?_; (with_reducible repeat (first | refine QN.tr ?_ | refine QN.br ?_))
     obtain ⟨H', h1, h2⟩ := bad _ _ (fun h => hl0 h.1.2) hS
     exact QN.retCT T_ok hS (cs := zM) rfl rfl rfl rfl (by repeat (first | exact zS .. | with_reducible apply zO)) ⟨_, rfl, H', h1, h2⟩
   refine RL.eqv (v' := .bool false) (zV (dF (by rw [hl0]; simp))) ?_
   refine RL.A1 T_ok rfl ?_
   refine RL.N1 ?_; (with_reducible repeat (first | refine QN.B1 ?_ | refine QN.N1 ?_ | refine WP.S1 ?_ | refine WP.B1 ?_ | refine WP.R1 ?_))
   refine WP.condF rfl ?_
   refine WP.skip ?_; (with_reducible repeat (first | refine QN.B1 ?_ | refine QN.N1 ?_ | refine WP.S1 ?_ | refine WP.B1 ?_ | refine WP.R1 ?_))
   refine RL.lsM T_ok hS (cs := mC g vv tv bv) (vs := mC g vv tv bv) rfl rfl rfl (by with_reducible repeat (first | exact zS .. | apply zO)) rfl rfl rfl ?_
   refine RL.callM (fi := []) (ca := []) hS (refwrite_s g vv tv bv hg.room hg.vec hg.turns hg.b hg.c hg.n) rfl rfl rfl rfl (by unfold mR; exact (by repeat (first | exact Sels.nil | apply Sels.ro (by repeat (first | exact zS .. | with_reducible apply zO)) (by rfl) | apply Sels.own (by repeat (first | exact Sel.head | with_reducible apply Sel.tail))))) ?_
   clear hB hBs
   (try clear hS)
   rintro r m H' hW hS
   cases hok : g.ok txt with
   | false =>
     rcases hW with ⟨h, _⟩ | ⟨_, rfl, rfl⟩
     · rw [hok] at h; cases h
     refine ⟨_, rfl, ?_⟩
     simp only [zN] at hS
     repeat (first | refine RL.autoP T_ok rfl rfl ?_ | refine RL.loadM T_ok hS rfl rfl rfl (by with_reducible repeat (first | exact zS .. | apply zO)) (by rfl) (by rfl) ?_ | refine RL.lsM T_ok hS rfl rfl rfl (by with_reducible repeat (first | exact zS .. | apply zO)) (by rfl) (by rfl) (by rfl) ?_ | (refine RL.N1 ?_; (with_reducible repeat (first | refine QN.B1 ?_ | refine QN.N1 ?_))) | with_reducible refine WP.S1 ?_ | with_reducible refine WP.B1 ?_ | with_reducible refine WP.R1 ?_ | (refine WP.skip ?_; (with_reducible repeat (first | refine QN.B1 ?_ | refine QN.N1 ?_))) | refine WP.condT rfl ?_ | refine WP.condF rfl ?_)
     (with_reducible repeat (first | refine WP.S1 ?_ | refine WP.B1 ?_ | refine WP.R1 ?_))
     refine RL.ssM T_ok hS (vs := zM) rfl rfl rfl rfl rfl (by rfl) (by rfl) (by with_reducible repeat (first | exact Rep.head | apply Rep.tail)) (by rfl) ?_
     (try clear hS); intro m hS
     refine RL.A1 T_ok rfl ?_
     refine RL.N1 ?_; (with_reducible repeat (first | refine QN.B1 ?_ | refine QN.N1 ?_ | refine WP.S1 ?_ | refine WP.B1 ?_ | refine WP.R1 ?_))
     refine WP.ret ?_; (with_reducible repeat (first | refine QN.tr ?_ | refine QN.br ?_))
     obtain ⟨H', h1, h2⟩ := bad _ _ (fun h => by have := h.2.1; rw [hok] at this; cases this) hS
     exact QN.retCT T_ok hS (cs := zM) rfl rfl rfl rfl (by repeat (first | exact zS .. | with_reducible apply zO)) ⟨_, rfl, H', h1, h2⟩
   | true =>
     rcases hW with ⟨_, w, S7, rfl, rfl⟩ | ⟨h, _⟩
     rotate_left
     · rw [hok] at h; cases h
     refine ⟨_, rfl, ?_⟩
     have hS := Tr.freeze hS (by omega)
     simp only [List.append_eq, List.nil_append] at hS
     refine RL.A1 T_ok rfl ?_
     refine RL.N1 ?_; (with_reducible repeat (first | refine QN.B1 ?_ | refine QN.N1 ?_ | refine WP.S1 ?_ | refine WP.B1 ?_ | refine WP.R1 ?_))
     refine RL.pure T_ok 3 rfl ?_
     refine RL.eqv (v' := .bool false) rfl ?_
     refine RL.pure T_ok 1 rfl ?_
     refine RL.bytesString T_ok (hS.mem (A := roA 1 w (u8s g.enc)) (by with_reducible repeat (first | exact zS .. | apply zO))).1 rfl rfl rfl rfl rfl rfl ?_
     refine RL.A1 T_ok rfl ?_
     refine RL.bytesString T_ok (hS.mem (A := roA 1 (.slice vA l0.length vc) (u8s l0)) (by repeat (first | exact zS .. | with_reducible apply zO))).1 rfl rfl rfl rfl rfl rfl ?_
     refine RL.pure T_ok 1 rfl ?_
     by_cases henc : g.enc = l0
     rotate_left
     · refine RL.eqv (v' := .bool true) (congrArg Value.bool (by
         show (!((str g.enc).toList == (str l0).toList)) = true
         rw [str_eq, dF henc]; rfl)) ?_
       refine RL.A1 T_ok rfl ?_
       refine RL.N1 ?_; (with_reducible repeat (first | refine QN.B1 ?_ | refine QN.N1 ?_ | refine WP.S1 ?_ | refine WP.B1 ?_ | refine WP.R1 ?_))
       refine WP.condT rfl ?_
       (with_reducible repeat (first | refine WP.S1 ?_ | refine WP.B1 ?_ | refine WP.R1 ?_))
       refine RL.A1 T_ok rfl ?_
       refine RL.ssM T_ok hS (vs := zM) rfl rfl rfl rfl rfl (by rfl) (by rfl) (by with_reducible repeat (first | exact Rep.head | apply Rep.tail)) (by rfl) ?_
       (try clear hS); intro m hS
       refine RL.A1 T_ok rfl ?_
       refine RL.N1 ?_; (with_reducible repeat (first | refine QN.B1 ?_ | refine QN.N1 ?_ | refine WP.S1 ?_ | refine WP.B1 ?_ | refine WP.R1 ?_))
       refine WP.ret ?_; (with_reducible repeat (first | refine QN.tr ?_ | refine QN.br ?_))
       obtain ⟨H', h1, h2⟩ := bad _ _ (fun h => henc h.2.2) hS
       exact QN.retCT T_ok hS (cs := zM) rfl rfl rfl rfl (by repeat (first | exact zS .. | with_reducible apply zO)) ⟨_, rfl, H', h1, h2⟩
     refine RL.eqv (v' := .bool false) (congrArg Value.bool (by
       show (!((str g.enc).toList == (str l0).toList)) = false
       rw [str_eq, dT henc]; rfl)) ?_
     refine RL.A1 T_ok rfl ?_
     refine RL.N1 ?_; (with_reducible repeat (first | refine QN.B1 ?_ | refine QN.N1 ?_ | refine WP.S1 ?_ | refine WP.B1 ?_ | refine WP.R1 ?_))
     refine WP.condF rfl ?_
     refine WP.skip ?_; (with_reducible repeat (first | refine QN.B1 ?_ | refine QN.N1 ?_ | refine WP.S1 ?_ | refine WP.B1 ?_ | refine WP.R1 ?_))
     refine RL.lsM T_ok hS (cs := mC g vv tv bv) (vs := mC g vv tv bv) rfl rfl rfl (by with_reducible repeat (first | exact zS .. | apply zO)) rfl rfl rfl ?_
     refine RL.ssM T_ok hS (vs := mC g vv tv bv) rfl rfl rfl rfl rfl ?_ (by rfl) (by with_reducible repeat (first | exact Rep.head | apply Rep.tail)) (by rfl) ?_
     · simp only [mC, List.all_cons, List.all_nil, (hS.mem (A := roA 2 vv (g.vec.flatMap cC)) (by simp)).1.one, (hS.mem (A := roA 4 tv (g.turns.flatMap tC)) (by simp)).1.one, (hS.mem (A := roA 1 bv (u8s g.b)) (by simp)).1.one]
       rfl
     clear hS
     intro m hS
     refine RL.A1 T_ok rfl ?_
     refine RL.N1 ?_; (with_reducible repeat (first | refine QN.B1 ?_ | refine QN.N1 ?_ | refine WP.S1 ?_ | refine WP.B1 ?_ | refine WP.R1 ?_))
     refine WP.ret ?_; (with_reducible repeat (first | refine QN.tr ?_ | refine QN.br ?_))
     have hrd : (match rdAll (some (g, l, e)) with | none => none | some g => if g.ok txt = true ∧ g.enc = l0 then some g else none) = some g := by
       unfold rdAll
       dsimp only
       rw [if_pos ⟨he, hl0⟩]
       dsimp only
       rw [if_pos ⟨hok, henc⟩]
     rw [hrd]
     exact QN.retCT T_ok hS (cs := mC g vv tv bv) rfl rfl rfl rfl (by repeat (first | exact zS .. | with_reducible apply zO)) ⟨_, rfl, mR g vv tv bv, ⟨vv, tv, bv, rfl, rfl⟩, hS.ros (L := mR g vv tv bv) (by unfold mR; exact (by repeat (first | exact AllIn.nil | refine AllIn.cons (by repeat (first | with_reducible exact zS .. | exact zS .. | with_reducible apply zO)) ?_))) rfl⟩
 generalize hK : ((k.toNat : Nat) : Int) = K at *
 by_cases k1 : K = 1
 · subst k1
   clear bad
   rw [if_pos (by decide), if_pos rfl, if_pos rfl] at hR
   repeat (first | refine RL.autoP T_ok rfl rfl ?_ | refine RL.loadM T_ok hS rfl rfl rfl (by with_reducible repeat (first | exact zS .. | apply zO)) (by rfl) (by rfl) ?_ | refine RL.lsM T_ok hS rfl rfl rfl (by with_reducible repeat (first | exact zS .. | apply zO)) (by rfl) (by rfl) (by rfl) ?_ | (refine RL.N1 ?_; (with_reducible repeat (first | refine QN.B1 ?_ | refine QN.N1 ?_))) | with_reducible refine WP.S1 ?_ | with_reducible refine WP.B1 ?_ | with_reducible refine WP.R1 ?_ | (refine WP.skip ?_; (with_reducible repeat (first | refine QN.B1 ?_ | refine QN.N1 ?_))) | refine WP.condT rfl ?_ | refine WP.condF rfl ?_)
   refine RL.callM (fi := []) (ca := []) hS (quint_s bq l1 e1 9007199254740991) rfl rfl rfl rfl (by repeat (first | exact Sels.nil | apply Sels.ro (by with_reducible repeat (first | exact zS .. | apply zO)) (by rfl) | apply Sels.own (by with_reducible repeat (first | exact Sel.head | apply Sel.tail)))) ?_
   (try clear hS); rintro _ m _ ⟨rfl, rfl⟩ hS; (try simp only [zC, zN] at hS); refine ⟨_, rfl, ?_⟩
   obtain ⟨q, hl2⟩ : ∃ q, rdN 9007199254740991 (l1, e1) = q := ⟨_, rfl⟩
   have nl2 := rdN_len' 9007199254740991 (l1, e1)
   rw [hl2] at hS hR nl2 ⊢
   obtain ⟨cl, l2, e2⟩ := q
   dsimp only at hS hR nl2 ⊢
   repeat (first | refine RL.autoP T_ok rfl rfl ?_ | refine RL.loadM T_ok hS rfl rfl rfl (by with_reducible repeat (first | exact zS .. | apply zO)) (by rfl) (by rfl) ?_ | refine RL.lsM T_ok hS rfl rfl rfl (by with_reducible repeat (first | exact zS .. | apply zO)) (by rfl) (by rfl) (by rfl) ?_ | (refine RL.N1 ?_; (with_reducible repeat (first | refine QN.B1 ?_ | refine QN.N1 ?_))) | with_reducible refine WP.S1 ?_ | with_reducible refine WP.B1 ?_ | with_reducible refine WP.R1 ?_ | (refine WP.skip ?_; (with_reducible repeat (first | refine QN.B1 ?_ | refine QN.N1 ?_))) | refine WP.condT rfl ?_ | refine WP.condF rfl ?_)
   refine RL.callM (fi := []) (ca := []) hS (qtext_s bq l2 e2 32 (by omega)) rfl rfl rfl rfl (by repeat (first | exact Sels.nil | apply Sels.ro (by with_reducible repeat (first | exact zS .. | apply zO)) (by rfl) | apply Sels.own (by with_reducible repeat (first | exact Sel.head | apply Sel.tail)))) ?_
   (try clear hS); rintro _ m _ ⟨rfl, rfl⟩ hS; (try simp only [zC, zN] at hS); refine ⟨_, rfl, ?_⟩
   obtain ⟨q, hl3⟩ : ∃ q, rdT 32 (l2, e2) = q := ⟨_, rfl⟩
   have nl3 := rdT_len' 32 (l2, e2)
   rw [hl3] at hS hR nl3 ⊢
   obtain ⟨rm, l3, e3⟩ := q
   dsimp only at hS hR nl3 ⊢
   repeat (first | refine RL.autoP T_ok rfl rfl ?_ | refine RL.loadM T_ok hS rfl rfl rfl (by with_reducible repeat (first | exact zS .. | apply zO)) (by rfl) (by rfl) ?_ | refine RL.lsM T_ok hS rfl rfl rfl (by with_reducible repeat (first | exact zS .. | apply zO)) (by rfl) (by rfl) (by rfl) ?_ | (refine RL.N1 ?_; (with_reducible repeat (first | refine QN.B1 ?_ | refine QN.N1 ?_))) | with_reducible refine WP.S1 ?_ | with_reducible refine WP.B1 ?_ | with_reducible refine WP.R1 ?_ | (refine WP.skip ?_; (with_reducible repeat (first | refine QN.B1 ?_ | refine QN.N1 ?_))) | refine WP.condT rfl ?_ | refine WP.condF rfl ?_)
   refine RL.storeM T_ok hS rfl rfl rfl rfl (by rfl) (by rfl) (by with_reducible repeat (first | exact Rep.head | apply Rep.tail)) (by rfl) ?_; (try clear hS); intro m hS
   repeat (first | refine RL.autoP T_ok rfl rfl ?_ | refine RL.loadM T_ok hS rfl rfl rfl (by with_reducible repeat (first | exact zS .. | apply zO)) (by rfl) (by rfl) ?_ | refine RL.lsM T_ok hS rfl rfl rfl (by with_reducible repeat (first | exact zS .. | apply zO)) (by rfl) (by rfl) (by rfl) ?_ | (refine RL.N1 ?_; (with_reducible repeat (first | refine QN.B1 ?_ | refine QN.N1 ?_))) | with_reducible refine WP.S1 ?_ | with_reducible refine WP.B1 ?_ | with_reducible refine WP.R1 ?_ | (refine WP.skip ?_; (with_reducible repeat (first | refine QN.B1 ?_ | refine QN.N1 ?_))) | refine WP.condT rfl ?_ | refine WP.condF rfl ?_)
   refine RL.storeM T_ok hS rfl rfl rfl rfl (by rfl) (by rfl) (by with_reducible repeat (first | exact Rep.head | apply Rep.tail)) (by rfl) ?_; (try clear hS); intro m hS
   repeat (first | refine RL.autoP T_ok rfl rfl ?_ | refine RL.loadM T_ok hS rfl rfl rfl (by with_reducible repeat (first | exact zS .. | apply zO)) (by rfl) (by rfl) ?_ | refine RL.lsM T_ok hS rfl rfl rfl (by with_reducible repeat (first | exact zS .. | apply zO)) (by rfl) (by rfl) (by rfl) ?_ | (refine RL.N1 ?_; (with_reducible repeat (first | refine QN.B1 ?_ | refine QN.N1 ?_))) | with_reducible refine WP.S1 ?_ | with_reducible refine WP.B1 ?_ | with_reducible refine WP.R1 ?_ | (refine WP.skip ?_; (with_reducible repeat (first | refine QN.B1 ?_ | refine QN.N1 ?_))) | refine WP.condT rfl ?_ | refine WP.condF rfl ?_)
   refine RL.callM (fi := []) (ca := []) hS (refvread_s bq l3 e3) rfl rfl rfl rfl (by repeat (first | exact Sels.nil | apply Sels.ro (by with_reducible repeat (first | exact zS .. | apply zO)) (by rfl) | apply Sels.own (by with_reducible repeat (first | exact Sel.head | apply Sel.tail)))) ?_
   rintro r m _ ⟨S1, rfl⟩ hS
   simp only [zC, zN] at hS
   obtain ⟨A1, c1, rfl, _⟩ := hS.shape
   have hS := hS.freeze (by omega)
   refine ⟨_, rfl, ?_⟩
   obtain ⟨q, h4⟩ : ∃ q, vrd (l3, e3) = q := ⟨_, rfl⟩
   rw [h4] at hS hR ⊢
   obtain ⟨V, l4, e4⟩ := q
   dsimp only at hS hR ⊢
   repeat (first | refine RL.autoP T_ok rfl rfl ?_ | refine RL.loadM T_ok hS rfl rfl rfl (by with_reducible repeat (first | exact zS .. | apply zO)) (by rfl) (by rfl) ?_ | refine RL.lsM T_ok hS rfl rfl rfl (by with_reducible repeat (first | exact zS .. | apply zO)) (by rfl) (by rfl) (by rfl) ?_ | (refine RL.N1 ?_; (with_reducible repeat (first | refine QN.B1 ?_ | refine QN.N1 ?_))) | with_reducible refine WP.S1 ?_ | with_reducible refine WP.B1 ?_ | with_reducible refine WP.R1 ?_ | (refine WP.skip ?_; (with_reducible repeat (first | refine QN.B1 ?_ | refine QN.N1 ?_))) | refine WP.condT rfl ?_ | refine WP.condF rfl ?_)
   refine RL.storeM T_ok hS rfl rfl rfl rfl (by rfl) (by rfl) (by with_reducible repeat (first | exact Rep.head | apply Rep.tail)) (by rfl) ?_; (try clear hS); intro m hS
   repeat (first | refine RL.autoP T_ok rfl rfl ?_ | refine RL.loadM T_ok hS rfl rfl rfl (by with_reducible repeat (first | exact zS .. | apply zO)) (by rfl) (by rfl) ?_ | refine RL.lsM T_ok hS rfl rfl rfl (by with_reducible repeat (first | exact zS .. | apply zO)) (by rfl) (by rfl) (by rfl) ?_ | (refine RL.N1 ?_; (with_reducible repeat (first | refine QN.B1 ?_ | refine QN.N1 ?_))) | with_reducible refine WP.S1 ?_ | with_reducible refine WP.B1 ?_ | with_reducible refine WP.R1 ?_ | (refine WP.skip ?_; (with_reducible repeat (first | refine QN.B1 ?_ | refine QN.N1 ?_))) | refine WP.condT rfl ?_ | refine WP.condF rfl ?_)
   refine RL.callM (fi := []) (ca := []) hS (readTurns_s bq l4 e4) rfl rfl rfl rfl (by repeat (first | exact Sels.nil | apply Sels.ro (by with_reducible repeat (first | exact zS .. | apply zO)) (by rfl) | apply Sels.own (by with_reducible repeat (first | exact Sel.head | apply Sel.tail)))) ?_
   rintro r m _ ⟨S2, rfl⟩ hS
   obtain ⟨q, h5⟩ : ∃ q, trdQ (rdN 16384 (l4, e4)).1 [] (rdN 16384 (l4, e4)).2 = q := ⟨_, rfl⟩
   rw [h5] at hS hR
   obtain ⟨Tn, l5, e5⟩ := q
   dsimp only at hS hR
   simp only [zC, zN] at hS
   obtain ⟨A2, c2, rfl, _⟩ := hS.shape
   have hS := hS.freeze (by omega)
   refine ⟨_, rfl, ?_⟩
   refine RL.A1 T_ok rfl ?_
   refine RL.storeM T_ok hS rfl rfl rfl rfl (by rfl) (by rfl) (by with_reducible repeat (first | exact Rep.head | apply Rep.tail)) (by rfl) ?_; (try clear hS); intro m hS
   have hS := hS.nilRo 1 (by omega)
   refine RL.N1 ?_
   (with_reducible repeat (first | refine QN.B1 ?_))
   refine QN.cutEnd (⟨1, cl, 0, rm, V, Tn, []⟩, l5, e5, .slice A1 V.length c1, .slice A2 Tn.length c2, .slice none 0 0) (Sub.C1 rfl (Sub.C1 rfl (Sub.C1 rfl (Sub.C1 rfl (Sub.C1 rfl Sub.nil))))) ⟨hR.symm, ?_⟩
   exact Tr.drop (H := [qdA bq l5 e5, blkA b3 27 (mC ⟨1, cl, 0, rm, V, Tn, []⟩ (.slice A1 V.length c1) (.slice A2 Tn.length c2) (.slice none 0 0)), blkA b2 27 zM, roA 1 (.slice vA l0.length vc) (u8s l0), roA 2 (.slice A1 V.length c1) (V.flatMap cC), roA 4 (.slice A2 Tn.length c2) (Tn.flatMap tC), roA 1 (.slice none 0 0) []]) (hS.sels (by repeat (first | exact Sels.nil | apply Sels.ro (by repeat (first | exact zS .. | with_reducible apply zO)) (by rfl) | apply Sels.own (by repeat (first | exact Sel.head | with_reducible apply Sel.tail)))))
 by_cases k2 : K = 2
 · subst k2
   clear bad
   rw [if_pos (by decide), if_neg (by decide), if_neg (by decide)] at hR
   repeat (first | refine RL.autoP T_ok rfl rfl ?_ | refine RL.loadM T_ok hS rfl rfl rfl (by with_reducible repeat (first | exact zS .. | apply zO)) (by rfl) (by rfl) ?_ | refine RL.lsM T_ok hS rfl rfl rfl (by with_reducible repeat (first | exact zS .. | apply zO)) (by rfl) (by rfl) (by rfl) ?_ | (refine RL.N1 ?_; (with_reducible repeat (first | refine QN.B1 ?_ | refine QN.N1 ?_))) | with_reducible refine WP.S1 ?_ | with_reducible refine WP.B1 ?_ | with_reducible refine WP.R1 ?_ | (refine WP.skip ?_; (with_reducible repeat (first | refine QN.B1 ?_ | refine QN.N1 ?_))) | refine WP.condT rfl ?_ | refine WP.condF rfl ?_)
   refine RL.callM (fi := []) (ca := []) hS (refvread_s bq l1 e1) rfl rfl rfl rfl (by repeat (first | exact Sels.nil | apply Sels.ro (by with_reducible repeat (first | exact zS .. | apply zO)) (by rfl) | apply Sels.own (by with_reducible repeat (first | exact Sel.head | apply Sel.tail)))) ?_
   rintro r m _ ⟨S1, rfl⟩ hS
   simp only [zC, zN] at hS
   obtain ⟨A1, c1, rfl, _⟩ := hS.shape
   have hS := hS.freeze (by omega)
   refine ⟨_, rfl, ?_⟩
   obtain ⟨q, h4⟩ : ∃ q, vrd (l1, e1) = q := ⟨_, rfl⟩
   rw [h4] at hS hR ⊢
   obtain ⟨V, l4, e4⟩ := q
   dsimp only at hS hR ⊢
   repeat (first | refine RL.autoP T_ok rfl rfl ?_ | refine RL.loadM T_ok hS rfl rfl rfl (by with_reducible repeat (first | exact zS .. | apply zO)) (by rfl) (by rfl) ?_ | refine RL.lsM T_ok hS rfl rfl rfl (by with_reducible repeat (first | exact zS .. | apply zO)) (by rfl) (by rfl) (by rfl) ?_ | (refine RL.N1 ?_; (with_reducible repeat (first | refine QN.B1 ?_ | refine QN.N1 ?_))) | with_reducible refine WP.S1 ?_ | with_reducible refine WP.B1 ?_ | with_reducible refine WP.R1 ?_ | (refine WP.skip ?_; (with_reducible repeat (first | refine QN.B1 ?_ | refine QN.N1 ?_))) | refine WP.condT rfl ?_ | refine WP.condF rfl ?_)
   refine RL.storeM T_ok hS rfl rfl rfl rfl (by rfl) (by rfl) (by with_reducible repeat (first | exact Rep.head | apply Rep.tail)) (by rfl) ?_; (try clear hS); intro m hS
   repeat (first | refine RL.autoP T_ok rfl rfl ?_ | refine RL.loadM T_ok hS rfl rfl rfl (by with_reducible repeat (first | exact zS .. | apply zO)) (by rfl) (by rfl) ?_ | refine RL.lsM T_ok hS rfl rfl rfl (by with_reducible repeat (first | exact zS .. | apply zO)) (by rfl) (by rfl) (by rfl) ?_ | (refine RL.N1 ?_; (with_reducible repeat (first | refine QN.B1 ?_ | refine QN.N1 ?_))) | with_reducible refine WP.S1 ?_ | with_reducible refine WP.B1 ?_ | with_reducible refine WP.R1 ?_ | (refine WP.skip ?_; (with_reducible repeat (first | refine QN.B1 ?_ | refine QN.N1 ?_))) | refine WP.condT rfl ?_ | refine WP.condF rfl ?_)
   refine RL.callM (fi := []) (ca := []) hS (readTurns_s bq l4 e4) rfl rfl rfl rfl (by repeat (first | exact Sels.nil | apply Sels.ro (by with_reducible repeat (first | exact zS .. | apply zO)) (by rfl) | apply Sels.own (by with_reducible repeat (first | exact Sel.head | apply Sel.tail)))) ?_
   rintro r m _ ⟨S2, rfl⟩ hS
   obtain ⟨q, h5⟩ : ∃ q, trdQ (rdN 16384 (l4, e4)).1 [] (rdN 16384 (l4, e4)).2 = q := ⟨_, rfl⟩
   rw [h5] at hS hR
   obtain ⟨Tn, l5, e5⟩ := q
   dsimp only at hS hR
   simp only [zC, zN] at hS
   obtain ⟨A2, c2, rfl, _⟩ := hS.shape
   have hS := hS.freeze (by omega)
   refine ⟨_, rfl, ?_⟩
   refine RL.A1 T_ok rfl ?_
   refine RL.storeM T_ok hS rfl rfl rfl rfl (by rfl) (by rfl) (by with_reducible repeat (first | exact Rep.head | apply Rep.tail)) (by rfl) ?_; (try clear hS); intro m hS
   have hS := hS.nilRo 1 (by omega)
   refine RL.N1 ?_
   (with_reducible repeat (first | refine QN.B1 ?_))
   refine QN.cutEnd (⟨2, 0, 0, [], V, Tn, []⟩, l5, e5, .slice A1 V.length c1, .slice A2 Tn.length c2, .slice none 0 0) (Sub.C1 rfl (Sub.C1 rfl (Sub.C1 rfl (Sub.C1 rfl (Sub.C1 rfl Sub.nil))))) ⟨hR.symm, ?_⟩
   exact Tr.drop (H := [qdA bq l5 e5, blkA b3 27 (mC ⟨2, 0, 0, [], V, Tn, []⟩ (.slice A1 V.length c1) (.slice A2 Tn.length c2) (.slice none 0 0)), blkA b2 27 zM, roA 1 (.slice vA l0.length vc) (u8s l0), roA 2 (.slice A1 V.length c1) (V.flatMap cC), roA 4 (.slice A2 Tn.length c2) (Tn.flatMap tC), roA 1 (.slice none 0 0) []]) (hS.sels (by repeat (first | exact Sels.nil | apply Sels.ro (by repeat (first | exact zS .. | with_reducible apply zO)) (by rfl) | apply Sels.own (by repeat (first | exact Sel.head | with_reducible apply Sel.tail)))))
 by_cases k3 : K = 3
 · subst k3
   clear bad
   rw [if_neg (by decide), if_pos rfl] at hR
   repeat (first | refine RL.autoP T_ok rfl rfl ?_ | refine RL.loadM T_ok hS rfl rfl rfl (by with_reducible repeat (first | exact zS .. | apply zO)) (by rfl) (by rfl) ?_ | refine RL.lsM T_ok hS rfl rfl rfl (by with_reducible repeat (first | exact zS .. | apply zO)) (by rfl) (by rfl) (by rfl) ?_ | (refine RL.N1 ?_; (with_reducible repeat (first | refine QN.B1 ?_ | refine QN.N1 ?_))) | with_reducible refine WP.S1 ?_ | with_reducible refine WP.B1 ?_ | with_reducible refine WP.R1 ?_ | (refine WP.skip ?_; (with_reducible repeat (first | refine QN.B1 ?_ | refine QN.N1 ?_))) | refine WP.condT rfl ?_ | refine WP.condF rfl ?_)
   refine RL.callM (fi := []) (ca := []) hS (quint_s bq l1 e1 9007199254740991) rfl rfl rfl rfl (by repeat (first | exact Sels.nil | apply Sels.ro (by with_reducible repeat (first | exact zS .. | apply zO)) (by rfl) | apply Sels.own (by with_reducible repeat (first | exact Sel.head | apply Sel.tail)))) ?_
   (try clear hS); rintro _ m _ ⟨rfl, rfl⟩ hS; (try simp only [zC, zN] at hS); refine ⟨_, rfl, ?_⟩
   obtain ⟨q, hl2⟩ : ∃ q, rdN 9007199254740991 (l1, e1) = q := ⟨_, rfl⟩
   have nl2 := rdN_len' 9007199254740991 (l1, e1)
   rw [hl2] at hS hR nl2 ⊢
   obtain ⟨nn, l2, e2⟩ := q
   dsimp only at hS hR nl2 ⊢
   repeat (first | refine RL.autoP T_ok rfl rfl ?_ | refine RL.loadM T_ok hS rfl rfl rfl (by with_reducible repeat (first | exact zS .. | apply zO)) (by rfl) (by rfl) ?_ | refine RL.lsM T_ok hS rfl rfl rfl (by with_reducible repeat (first | exact zS .. | apply zO)) (by rfl) (by rfl) (by rfl) ?_ | (refine RL.N1 ?_; (with_reducible repeat (first | refine QN.B1 ?_ | refine QN.N1 ?_))) | with_reducible refine WP.S1 ?_ | with_reducible refine WP.B1 ?_ | with_reducible refine WP.R1 ?_ | (refine WP.skip ?_; (with_reducible repeat (first | refine QN.B1 ?_ | refine QN.N1 ?_))) | refine WP.condT rfl ?_ | refine WP.condF rfl ?_)
   refine RL.storeM T_ok hS rfl rfl rfl rfl (by rfl) (by rfl) (by with_reducible repeat (first | exact Rep.head | apply Rep.tail)) (by rfl) ?_; (try clear hS); intro m hS
   repeat (first | refine RL.autoP T_ok rfl rfl ?_ | refine RL.loadM T_ok hS rfl rfl rfl (by with_reducible repeat (first | exact zS .. | apply zO)) (by rfl) (by rfl) ?_ | refine RL.lsM T_ok hS rfl rfl rfl (by with_reducible repeat (first | exact zS .. | apply zO)) (by rfl) (by rfl) (by rfl) ?_ | (refine RL.N1 ?_; (with_reducible repeat (first | refine QN.B1 ?_ | refine QN.N1 ?_))) | with_reducible refine WP.S1 ?_ | with_reducible refine WP.B1 ?_ | with_reducible refine WP.R1 ?_ | (refine WP.skip ?_; (with_reducible repeat (first | refine QN.B1 ?_ | refine QN.N1 ?_))) | refine WP.condT rfl ?_ | refine WP.condF rfl ?_)
   refine RL.callM (fi := []) (ca := []) hS (qtext_s bq l2 e2 1048576 (by omega)) rfl rfl rfl rfl (by repeat (first | exact Sels.nil | apply Sels.ro (by with_reducible repeat (first | exact zS .. | apply zO)) (by rfl) | apply Sels.own (by with_reducible repeat (first | exact Sel.head | apply Sel.tail)))) ?_
   (try clear hS); rintro _ m _ ⟨rfl, rfl⟩ hS; (try simp only [zC, zN] at hS); refine ⟨_, rfl, ?_⟩
   obtain ⟨q, hl3⟩ : ∃ q, rdT 1048576 (l2, e2) = q := ⟨_, rfl⟩
   have nl3 := rdT_len' 1048576 (l2, e2)
   rw [hl3] at hS hR nl3 ⊢
   obtain ⟨tx, l3, e3⟩ := q
   dsimp only at hS hR nl3 ⊢
   refine RL.toBytes (l := tx) T_ok hS rfl rfl rfl (by unfold maxLen; omega) rfl rfl ?_
   clear hS
   rintro bv m hS ⟨A1, c1, rfl⟩
   refine ⟨_, rfl, ?_⟩
   repeat (first | refine RL.autoP T_ok rfl rfl ?_ | refine RL.loadM T_ok hS rfl rfl rfl (by with_reducible repeat (first | exact zS .. | apply zO)) (by rfl) (by rfl) ?_ | refine RL.lsM T_ok hS rfl rfl rfl (by with_reducible repeat (first | exact zS .. | apply zO)) (by rfl) (by rfl) (by rfl) ?_ | (refine RL.N1 ?_; (with_reducible repeat (first | refine QN.B1 ?_ | refine QN.N1 ?_))) | with_reducible refine WP.S1 ?_ | with_reducible refine WP.B1 ?_ | with_reducible refine WP.R1 ?_ | (refine WP.skip ?_; (with_reducible repeat (first | refine QN.B1 ?_ | refine QN.N1 ?_))) | refine WP.condT rfl ?_ | refine WP.condF rfl ?_)
   refine RL.storeM T_ok hS rfl rfl rfl rfl (by rfl) (by rfl) (by with_reducible repeat (first | exact Rep.head | apply Rep.tail)) (by rfl) ?_; (try clear hS); intro m hS
   have hS := ((hS.nilRo 2 (by omega)).nilRo 4 (by omega)).nilRo 1 (by omega)
   refine RL.N1 ?_
   (with_reducible repeat (first | refine QN.B1 ?_))
   refine QN.cutEnd (⟨3, 0, nn, [], [], [], tx⟩, l3, e3, .slice none 0 0, .slice none 0 0, .slice A1 tx.length c1) (Sub.C1 rfl (Sub.C1 rfl (Sub.C1 rfl (Sub.C1 rfl (Sub.C1 rfl Sub.nil))))) ⟨hR.symm, ?_⟩
   exact Tr.drop (H := [qdA bq l3 e3, blkA b3 27 (mC ⟨3, 0, nn, [], [], [], tx⟩ (.slice none 0 0) (.slice none 0 0) (.slice A1 tx.length c1)), blkA b2 27 zM, roA 1 (.slice vA l0.length vc) (u8s l0), roA 2 (.slice none 0 0) [], roA 4 (.slice none 0 0) [], roA 1 (.slice A1 tx.length c1) (u8s tx)]) (hS.sels (by repeat (first | exact Sels.nil | apply Sels.ro (by repeat (first | exact zS .. | with_reducible apply zO)) (by rfl) | apply Sels.own (by repeat (first | exact Sel.head | with_reducible apply Sel.tail)))))
 by_cases k5 : K = 5
 · subst k5
   clear bad
   rw [if_neg (by decide), if_neg (by decide), if_pos rfl] at hR
   repeat (first | refine RL.autoP T_ok rfl rfl ?_ | refine RL.loadM T_ok hS rfl rfl rfl (by with_reducible repeat (first | exact zS .. | apply zO)) (by rfl) (by rfl) ?_ | refine RL.lsM T_ok hS rfl rfl rfl (by with_reducible repeat (first | exact zS .. | apply zO)) (by rfl) (by rfl) (by rfl) ?_ | (refine RL.N1 ?_; (with_reducible repeat (first | refine QN.B1 ?_ | refine QN.N1 ?_))) | with_reducible refine WP.S1 ?_ | with_reducible refine WP.B1 ?_ | with_reducible refine WP.R1 ?_ | (refine WP.skip ?_; (with_reducible repeat (first | refine QN.B1 ?_ | refine QN.N1 ?_))) | refine WP.condT rfl ?_ | refine WP.condF rfl ?_)
   refine RL.callM (fi := []) (ca := []) hS (qtext_s bq l1 e1 1048576 (by omega)) rfl rfl rfl rfl (by repeat (first | exact Sels.nil | apply Sels.ro (by with_reducible repeat (first | exact zS .. | apply zO)) (by rfl) | apply Sels.own (by with_reducible repeat (first | exact Sel.head | apply Sel.tail)))) ?_
   (try clear hS); rintro _ m _ ⟨rfl, rfl⟩ hS; (try simp only [zC, zN] at hS); refine ⟨_, rfl, ?_⟩
   obtain ⟨q, hl3⟩ : ∃ q, rdT 1048576 (l1, e1) = q := ⟨_, rfl⟩
   have nl3 := rdT_len' 1048576 (l1, e1)
   rw [hl3] at hS hR nl3 ⊢
   obtain ⟨tx, l3, e3⟩ := q
   dsimp only at hS hR nl3 ⊢
   refine RL.toBytes (l := tx) T_ok hS rfl rfl rfl (by unfold maxLen; omega) rfl rfl ?_
   clear hS
   rintro bv m hS ⟨A1, c1, rfl⟩
   refine ⟨_, rfl, ?_⟩
   repeat (first | refine RL.autoP T_ok rfl rfl ?_ | refine RL.loadM T_ok hS rfl rfl rfl (by with_reducible repeat (first | exact zS .. | apply zO)) (by rfl) (by rfl) ?_ | refine RL.lsM T_ok hS rfl rfl rfl (by with_reducible repeat (first | exact zS .. | apply zO)) (by rfl) (by rfl) (by rfl) ?_ | (refine RL.N1 ?_; (with_reducible repeat (first | refine QN.B1 ?_ | refine QN.N1 ?_))) | with_reducible refine WP.S1 ?_ | with_reducible refine WP.B1 ?_ | with_reducible refine WP.R1 ?_ | (refine WP.skip ?_; (with_reducible repeat (first | refine QN.B1 ?_ | refine QN.N1 ?_))) | refine WP.condT rfl ?_ | refine WP.condF rfl ?_)
   refine RL.storeM T_ok hS rfl rfl rfl rfl (by rfl) (by rfl) (by with_reducible repeat (first | exact Rep.head | apply Rep.tail)) (by rfl) ?_; (try clear hS); intro m hS
   have hS := ((hS.nilRo 2 (by omega)).nilRo 4 (by omega)).nilRo 1 (by omega)
   refine RL.N1 ?_
   (with_reducible repeat (first | refine QN.B1 ?_))
   refine QN.cutEnd (⟨5, 0, 0, [], [], [], tx⟩, l3, e3, .slice none 0 0, .slice none 0 0, .slice A1 tx.length c1) (Sub.C1 rfl (Sub.C1 rfl (Sub.C1 rfl (Sub.C1 rfl (Sub.C1 rfl Sub.nil))))) ⟨hR.symm, ?_⟩
   exact Tr.drop (H := [qdA bq l3 e3, blkA b3 27 (mC ⟨5, 0, 0, [], [], [], tx⟩ (.slice none 0 0) (.slice none 0 0) (.slice A1 tx.length c1)), blkA b2 27 zM, roA 1 (.slice vA l0.length vc) (u8s l0), roA 2 (.slice none 0 0) [], roA 4 (.slice none 0 0) [], roA 1 (.slice A1 tx.length c1) (u8s tx)]) (hS.sels (by repeat (first | exact Sels.nil | apply Sels.ro (by repeat (first | exact zS .. | with_reducible apply zO)) (by rfl) | apply Sels.own (by repeat (first | exact Sel.head | with_reducible apply Sel.tail)))))
 by_cases k4 : K = 4
 · subst k4
   clear bad
   rw [if_neg (by decide), if_neg (by decide), if_neg (by decide), if_pos (by decide)] at hR
   repeat (first | refine RL.autoP T_ok rfl rfl ?_ | refine RL.loadM T_ok hS rfl rfl rfl (by with_reducible repeat (first | exact zS .. | apply zO)) (by rfl) (by rfl) ?_ | refine RL.lsM T_ok hS rfl rfl rfl (by with_reducible repeat (first | exact zS .. | apply zO)) (by rfl) (by rfl) (by rfl) ?_ | (refine RL.N1 ?_; (with_reducible repeat (first | refine QN.B1 ?_ | refine QN.N1 ?_))) | with_reducible refine WP.S1 ?_ | with_reducible refine WP.B1 ?_ | with_reducible refine WP.R1 ?_ | (refine WP.skip ?_; (with_reducible repeat (first | refine QN.B1 ?_ | refine QN.N1 ?_))) | refine WP.condT rfl ?_ | refine WP.condF rfl ?_)
   refine RL.callM (fi := []) (ca := []) hS (quint_s bq l1 e1 9007199254740991) rfl rfl rfl rfl (by repeat (first | exact Sels.nil | apply Sels.ro (by with_reducible repeat (first | exact zS .. | apply zO)) (by rfl) | apply Sels.own (by with_reducible repeat (first | exact Sel.head | apply Sel.tail)))) ?_
   (try clear hS); rintro _ m _ ⟨rfl, rfl⟩ hS; (try simp only [zC, zN] at hS); refine ⟨_, rfl, ?_⟩
   obtain ⟨q, hl2⟩ : ∃ q, rdN 9007199254740991 (l1, e1) = q := ⟨_, rfl⟩
   have nl2 := rdN_len' 9007199254740991 (l1, e1)
   rw [hl2] at hS hR nl2 ⊢
   obtain ⟨nn, l2, e2⟩ := q
   dsimp only at hS hR nl2 ⊢
   repeat (first | refine RL.autoP T_ok rfl rfl ?_ | refine RL.loadM T_ok hS rfl rfl rfl (by with_reducible repeat (first | exact zS .. | apply zO)) (by rfl) (by rfl) ?_ | refine RL.lsM T_ok hS rfl rfl rfl (by with_reducible repeat (first | exact zS .. | apply zO)) (by rfl) (by rfl) (by rfl) ?_ | (refine RL.N1 ?_; (with_reducible repeat (first | refine QN.B1 ?_ | refine QN.N1 ?_))) | with_reducible refine WP.S1 ?_ | with_reducible refine WP.B1 ?_ | with_reducible refine WP.R1 ?_ | (refine WP.skip ?_; (with_reducible repeat (first | refine QN.B1 ?_ | refine QN.N1 ?_))) | refine WP.condT rfl ?_ | refine WP.condF rfl ?_)
   refine RL.storeM T_ok hS rfl rfl rfl rfl (by rfl) (by rfl) (by with_reducible repeat (first | exact Rep.head | apply Rep.tail)) (by rfl) ?_; (try clear hS); intro m hS
   have hS := ((hS.nilRo 2 (by omega)).nilRo 4 (by omega)).nilRo 1 (by omega)
   refine RL.N1 ?_
   (with_reducible repeat (first | refine QN.B1 ?_))
   refine QN.cutEnd (⟨4, 0, nn, [], [], [], []⟩, l2, e2, .slice none 0 0, .slice none 0 0, .slice none 0 0) (Sub.C1 rfl (Sub.C1 rfl (Sub.C1 rfl (Sub.C1 rfl (Sub.C1 rfl Sub.nil))))) ⟨hR.symm, ?_⟩
   exact Tr.drop (H := [qdA bq l2 e2, blkA b3 27 (mC ⟨4, 0, nn, [], [], [], []⟩ (.slice none 0 0) (.slice none 0 0) (.slice none 0 0)), blkA b2 27 zM, roA 1 (.slice vA l0.length vc) (u8s l0), roA 2 (.slice none 0 0) [], roA 4 (.slice none 0 0) [], roA 1 (.slice none 0 0) (u8s [])]) (hS.sels (by repeat (first | exact Sels.nil | apply Sels.ro (by repeat (first | exact zS .. | with_reducible apply zO)) (by rfl) | apply Sels.own (by repeat (first | exact Sel.head | with_reducible apply Sel.tail)))))
 by_cases k6 : K = 6
 · subst k6
   clear bad
   rw [if_neg (by decide), if_neg (by decide), if_neg (by decide), if_pos (by decide)] at hR
   repeat (first | refine RL.autoP T_ok rfl rfl ?_ | refine RL.loadM T_ok hS rfl rfl rfl (by with_reducible repeat (first | exact zS .. | apply zO)) (by rfl) (by rfl) ?_ | refine RL.lsM T_ok hS rfl rfl rfl (by with_reducible repeat (first | exact zS .. | apply zO)) (by rfl) (by rfl) (by rfl) ?_ | (refine RL.N1 ?_; (with_reducible repeat (first | refine QN.B1 ?_ | refine QN.N1 ?_))) | with_reducible refine WP.S1 ?_ | with_reducible refine WP.B1 ?_ | with_reducible refine WP.R1 ?_ | (refine WP.skip ?_; (with_reducible repeat (first | refine QN.B1 ?_ | refine QN.N1 ?_))) | refine WP.condT rfl ?_ | refine WP.condF rfl ?_)
   refine RL.callM (fi := []) (ca := []) hS (quint_s bq l1 e1 9007199254740991) rfl rfl rfl rfl (by repeat (first | exact Sels.nil | apply Sels.ro (by with_reducible repeat (first | exact zS .. | apply zO)) (by rfl) | apply Sels.own (by with_reducible repeat (first | exact Sel.head | apply Sel.tail)))) ?_
   (try clear hS); rintro _ m _ ⟨rfl, rfl⟩ hS; (try simp only [zC, zN] at hS); refine ⟨_, rfl, ?_⟩
   obtain ⟨q, hl2⟩ : ∃ q, rdN 9007199254740991 (l1, e1) = q := ⟨_, rfl⟩
   have nl2 := rdN_len' 9007199254740991 (l1, e1)
   rw [hl2] at hS hR nl2 ⊢
   obtain ⟨nn, l2, e2⟩ := q
   dsimp only at hS hR nl2 ⊢
   repeat (first | refine RL.autoP T_ok rfl rfl ?_ | refine RL.loadM T_ok hS rfl rfl rfl (by with_reducible repeat (first | exact zS .. | apply zO)) (by rfl) (by rfl) ?_ | refine RL.lsM T_ok hS rfl rfl rfl (by with_reducible repeat (first | exact zS .. | apply zO)) (by rfl) (by rfl) (by rfl) ?_ | (refine RL.N1 ?_; (with_reducible repeat (first | refine QN.B1 ?_ | refine QN.N1 ?_))) | with_reducible refine WP.S1 ?_ | with_reducible refine WP.B1 ?_ | with_reducible refine WP.R1 ?_ | (refine WP.skip ?_; (with_reducible repeat (first | refine QN.B1 ?_ | refine QN.N1 ?_))) | refine WP.condT rfl ?_ | refine WP.condF rfl ?_)
   refine RL.storeM T_ok hS rfl rfl rfl rfl (by rfl) (by rfl) (by with_reducible repeat (first | exact Rep.head | apply Rep.tail)) (by rfl) ?_; (try clear hS); intro m hS
   have hS := ((hS.nilRo 2 (by omega)).nilRo 4 (by omega)).nilRo 1 (by omega)
   refine RL.N1 ?_
   (with_reducible repeat (first | refine QN.B1 ?_))
   refine QN.cutEnd (⟨6, 0, nn, [], [], [], []⟩, l2, e2, .slice none 0 0, .slice none 0 0, .slice none 0 0) (Sub.C1 rfl (Sub.C1 rfl (Sub.C1 rfl (Sub.C1 rfl (Sub.C1 rfl Sub.nil))))) ⟨hR.symm, ?_⟩
   exact Tr.drop (H := [qdA bq l2 e2, blkA b3 27 (mC ⟨6, 0, nn, [], [], [], []⟩ (.slice none 0 0) (.slice none 0 0) (.slice none 0 0)), blkA b2 27 zM, roA 1 (.slice vA l0.length vc) (u8s l0), roA 2 (.slice none 0 0) [], roA 4 (.slice none 0 0) [], roA 1 (.slice none 0 0) (u8s [])]) (hS.sels (by repeat (first | exact Sels.nil | apply Sels.ro (by repeat (first | exact zS .. | with_reducible apply zO)) (by rfl) | apply Sels.own (by repeat (first | exact Sel.head | with_reducible apply Sel.tail)))))
 rw [if_neg (by omega), if_neg k3, if_neg k5, if_neg (by omega)] at hR
 (with_reducible repeat (first | refine WP.S1 ?_ | refine WP.B1 ?_ | refine WP.R1 ?_))
 refine RL.pure T_ok 1 rfl ?_
 refine RL.loadM T_ok hS rfl rfl rfl (by with_reducible repeat (first | exact zS .. | apply zO)) (by rfl) (by rfl) ?_
 refine RL.N1 ?_; (with_reducible repeat (first | refine QN.B1 ?_ | refine QN.N1 ?_))
 (with_reducible repeat (first | refine WP.S1 ?_ | refine WP.B1 ?_ | refine WP.R1 ?_))
 refine RL.pure T_ok 1 rfl ?_
 refine RL.eqv (v' := .bool false) (zV (bF k1)) ?_
 refine RL.A1 T_ok rfl ?_
 refine RL.N1 ?_; (with_reducible repeat (first | refine QN.B1 ?_ | refine QN.N1 ?_))
 refine WP.condF rfl ?_
 (with_reducible repeat (first | refine WP.S1 ?_ | refine WP.B1 ?_ | refine WP.R1 ?_))
 refine RL.pure T_ok 1 rfl ?_
 refine RL.eqv (v' := .bool false) (zV (bF k2)) ?_
 refine RL.A1 T_ok rfl ?_
 refine RL.N1 ?_; (with_reducible repeat (first | refine QN.B1 ?_ | refine QN.N1 ?_))
 refine WP.condF rfl ?_
 (with_reducible repeat (first | refine WP.S1 ?_ | refine WP.B1 ?_ | refine WP.R1 ?_))
 refine RL.pure T_ok 1 rfl ?_
 refine RL.eqv (v' := .bool false) (zV (bF k3)) ?_
 refine RL.A1 T_ok rfl ?_
 refine RL.N1 ?_; (with_reducible repeat (first | refine QN.B1 ?_ | refine QN.N1 ?_))
 refine WP.condF rfl ?_
 (with_reducible repeat (first | refine WP.S1 ?_ | refine WP.B1 ?_ | refine WP.R1 ?_))
 refine RL.pure T_ok 1 rfl ?_
 refine RL.eqv (v' := .bool false) (zV (bF k5)) ?_
 refine RL.A1 T_ok rfl ?_
 refine RL.N1 ?_; (with_reducible repeat (first | refine QN.B1 ?_ | refine QN.N1 ?_))
 refine WP.condF rfl ?_
 (with_reducible repeat (first | refine WP.S1 ?_ | refine WP.B1 ?_ | refine WP.R1 ?_))
 refine RL.pure T_ok 1 rfl ?_
 refine RL.eqv (v' := .bool false) (zV (bF k4)) ?_
 refine RL.A1 T_ok rfl ?_
 refine RL.N1 ?_; (with_reducible repeat (first | refine QN.B1 ?_ | refine QN.N1 ?_))
 refine WP.condF rfl ?_
 (with_reducible repeat (first | refine WP.S1 ?_ | refine WP.B1 ?_ | refine WP.R1 ?_))
 refine RL.pure T_ok 1 rfl ?_
 refine RL.eqv (v' := .bool false) (zV (bF k6)) ?_
 refine RL.A1 T_ok rfl ?_
 refine RL.N1 ?_; (with_reducible repeat (first | refine QN.B1 ?_ | refine QN.N1 ?_))
 refine WP.condF rfl ?_
 (with_reducible repeat (first | refine WP.S1 ?_ | refine WP.B1 ?_ | refine WP.R1 ?_))
 refine RL.A1 T_ok rfl ?_
 refine RL.ssM T_ok hS (vs := zM) rfl rfl rfl rfl rfl (by rfl) (by rfl) (by with_reducible repeat (first | exact Rep.head | apply Rep.tail)) (by rfl) ?_
 (try clear hS); intro m hS
 refine RL.A1 T_ok rfl ?_
 refine RL.N1 ?_; (with_reducible repeat (first | refine QN.B1 ?_ | refine QN.N1 ?_ | refine WP.S1 ?_ | refine WP.B1 ?_ | refine WP.R1 ?_))
 refine WP.ret ?_; (with_reducible repeat (first | refine QN.tr ?_ | refine QN.br ?_))
 obtain ⟨H', h1, h2⟩ := bad _ _ hR.symm hS
 exact QN.retCT T_ok hS (cs := zM) rfl rfl rfl rfl (by repeat (first | exact zS .. | with_reducible apply zO)) ⟨_, rfl, H', h1, h2⟩
end Go.Proofs.YtmjpcaiehfimgaaGreatDoor
end
section
namespace Go.Proofs.YtmjpcaiehfimgaaGreatDoor
open Go.RowKit Go.Ev Go.Ids
theorem lsame_s (a b : Msg) (va ta ba vb tb bb : Value) (ha : a.Fit) : DoS Tryz.prog 14 [.agg (mC a va ta ba).toArray, .agg (mC b vb tb bb).toArray] (mR a va ta ba ++ mR b vb tb bb) (fun r H => r = .bool (a.same b) ∧ H = []) := by
 intro m0 X hS
 have fin : ∀ q m H, a.same b = q → Tr m0 (ofps (mR a va ta ba ++ mR b vb tb bb)) X m H → ∃ r, Ending.returned (.bool q) = .returned r ∧ ∃ H', (r = Value.bool (a.same b) ∧ H' = []) ∧ Tr m0 (ofps (mR a va ta ba ++ mR b vb tb bb)) X m H' := fun q m H hb hS => ⟨_, rfl, [], ⟨by rw [hb], rfl⟩, Tr.drop (H := []) hS⟩
 generalize hP : ofps (mR a va ta ba ++ mR b vb tb bb) = PP at *
 simp only [mR, zC, zN] at hS
 clear hP
 refine FnE.enter ⟨_, Tryz.func14, by kernel_rfl, by kernel_rfl⟩ Tryz.func14 rfl rfl ?_
 (with_reducible repeat (first | refine WP.S1 ?_ | refine WP.B1 ?_ | refine WP.R1 ?_))
 refine RL.boxS hS rfl rfl rfl ?_; (try clear hS); intro b2 m hS; refine ⟨_, rfl, ?_⟩
 refine RL.boxS hS rfl rfl rfl ?_; (try clear hS); intro b3 m hS; refine ⟨_, rfl, ?_⟩
 refine RL.A1 T_ok rfl ?_
 refine RL.N1 ?_; (with_reducible repeat (first | refine QN.B1 ?_ | refine QN.N1 ?_ | refine WP.S1 ?_ | refine WP.B1 ?_ | refine WP.R1 ?_))
 refine RL.pure T_ok 1 rfl ?_
 refine RL.loadM T_ok hS rfl rfl rfl (by with_reducible repeat (first | exact zS .. | apply zO)) (by rfl) (by rfl) ?_
 refine RL.pure T_ok 1 rfl ?_
 refine RL.loadM T_ok hS rfl rfl rfl (by with_reducible repeat (first | exact zS .. | apply zO)) (by rfl) (by rfl) ?_
 refine RL.pure T_ok 1 rfl ?_
 by_cases h0 : a.kind = b.kind
 rotate_left
 · refine RL.eqv (v' := .bool false) (zV (bF (by omega))) ?_
   refine RL.A1 T_ok rfl ?_
   refine RL.N1 ?_; (with_reducible repeat (first | refine QN.B1 ?_ | refine QN.N1 ?_ | refine WP.S1 ?_ | refine WP.B1 ?_ | refine WP.R1 ?_))
   refine WP.ret ?_; (with_reducible repeat (first | refine QN.tr ?_ | refine QN.br ?_))
   exact QN.ret1 rfl rfl (fin _ _ _ (by unfold Msg.same; simp [h0]) hS)
 refine RL.eqv (v' := .bool true) (zV (beq_iff_eq.2 (by omega))) ?_
 refine RL.pure T_ok 2 rfl ?_
 refine RL.loadM T_ok hS rfl rfl rfl (by with_reducible repeat (first | exact zS .. | apply zO)) (by rfl) (by rfl) ?_
 refine RL.pure T_ok 1 rfl ?_
 refine RL.loadM T_ok hS rfl rfl rfl (by with_reducible repeat (first | exact zS .. | apply zO)) (by rfl) (by rfl) ?_
 refine RL.pure T_ok 1 rfl ?_
 by_cases h1 : a.c = b.c
 rotate_left
 · refine RL.eqv (v' := .bool false) (zV (bF (by omega))) ?_
   refine RL.A1 T_ok rfl ?_
   refine RL.N1 ?_; (with_reducible repeat (first | refine QN.B1 ?_ | refine QN.N1 ?_ | refine WP.S1 ?_ | refine WP.B1 ?_ | refine WP.R1 ?_))
   refine WP.ret ?_; (with_reducible repeat (first | refine QN.tr ?_ | refine QN.br ?_))
   exact QN.ret1 rfl rfl (fin _ _ _ (by unfold Msg.same; simp [h0, h1]) hS)
 refine RL.eqv (v' := .bool true) (zV (beq_iff_eq.2 (by omega))) ?_
 refine RL.pure T_ok 3 rfl ?_
 refine RL.loadM T_ok hS rfl rfl rfl (by with_reducible repeat (first | exact zS .. | apply zO)) (by rfl) (by rfl) ?_
 refine RL.pure T_ok 1 rfl ?_
 refine RL.loadM T_ok hS rfl rfl rfl (by with_reducible repeat (first | exact zS .. | apply zO)) (by rfl) (by rfl) ?_
 refine RL.pure T_ok 1 rfl ?_
 by_cases h2 : a.n = b.n
 rotate_left
 · refine RL.eqv (v' := .bool false) (zV (bF (by omega))) ?_
   refine RL.A1 T_ok rfl ?_
   refine RL.N1 ?_; (with_reducible repeat (first | refine QN.B1 ?_ | refine QN.N1 ?_ | refine WP.S1 ?_ | refine WP.B1 ?_ | refine WP.R1 ?_))
   refine WP.ret ?_; (with_reducible repeat (first | refine QN.tr ?_ | refine QN.br ?_))
   exact QN.ret1 rfl rfl (fin _ _ _ (by unfold Msg.same; simp [h0, h1, h2]) hS)
 refine RL.eqv (v' := .bool true) (zV (beq_iff_eq.2 (by omega))) ?_
 refine RL.pure T_ok 3 rfl ?_
 refine RL.loadM T_ok hS rfl rfl rfl (by with_reducible repeat (first | exact zS .. | apply zO)) (by rfl) (by rfl) ?_
 refine RL.pure T_ok 1 rfl ?_
 refine RL.loadM T_ok hS rfl rfl rfl (by with_reducible repeat (first | exact zS .. | apply zO)) (by rfl) (by rfl) ?_
 refine RL.pure T_ok 1 rfl ?_
 by_cases h3 : a.room = b.room
 rotate_left
 · refine RL.eqv (v' := .bool false) (zV ((str_eq _ _).trans (dF h3))) ?_
   refine RL.A1 T_ok rfl ?_
   refine RL.N1 ?_; (with_reducible repeat (first | refine QN.B1 ?_ | refine QN.N1 ?_ | refine WP.S1 ?_ | refine WP.B1 ?_ | refine WP.R1 ?_))
   refine WP.ret ?_; (with_reducible repeat (first | refine QN.tr ?_ | refine QN.br ?_))
   exact QN.ret1 rfl rfl (fin _ _ _ (by unfold Msg.same; simp [h0, h1, h2, h3]) hS)
 refine RL.eqv (v' := .bool true) (zV ((str_eq _ _).trans (dT h3))) ?_
 refine RL.pure T_ok 3 rfl ?_
 refine RL.loadM T_ok hS rfl rfl rfl (by with_reducible repeat (first | exact zS .. | apply zO)) (by rfl) (by rfl) ?_
 refine RL.pure T_ok 1 rfl ?_
 refine RL.loadM T_ok hS rfl rfl rfl (by with_reducible repeat (first | exact zS .. | apply zO)) (by rfl) (by rfl) ?_
 refine RL.callM (fi := []) (ca := []) hS (clocks_s _ _ a.vec b.vec (by have := ha.vec; omega)) rfl rfl rfl rfl (by repeat (first | exact Sels.nil | apply Sels.ro (by with_reducible repeat (first | exact zS .. | apply zO)) (by rfl) | apply Sels.own (by with_reducible repeat (first | exact Sel.head | apply Sel.tail)))) ?_
 (try clear hS); rintro _ m _ ⟨rfl, rfl⟩ hS; (try simp only [zN] at hS); refine ⟨_, rfl, ?_⟩
 by_cases h4 : a.vec = b.vec
 rotate_left
 · refine RL.eqv (v' := .bool false) (zV (dF h4)) ?_
   refine RL.A1 T_ok rfl ?_
   refine RL.N1 ?_; (with_reducible repeat (first | refine QN.B1 ?_ | refine QN.N1 ?_ | refine WP.S1 ?_ | refine WP.B1 ?_ | refine WP.R1 ?_))
   refine WP.ret ?_; (with_reducible repeat (first | refine QN.tr ?_ | refine QN.br ?_))
   exact QN.ret1 rfl rfl (fin _ _ _ (by unfold Msg.same; simp [h0, h1, h2, h3, h4]) hS)
 refine RL.eqv (v' := .bool true) (zV (dT h4)) ?_
 refine RL.pure T_ok 3 rfl ?_
 refine RL.loadM T_ok hS rfl rfl rfl (by with_reducible repeat (first | exact zS .. | apply zO)) (by rfl) (by rfl) ?_
 refine RL.pure T_ok 1 rfl ?_
 refine RL.loadM T_ok hS rfl rfl rfl (by with_reducible repeat (first | exact zS .. | apply zO)) (by rfl) (by rfl) ?_
 refine RL.callM (fi := []) (ca := []) hS (turns_s _ _ a.turns b.turns (by have := ha.turns; omega)) rfl rfl rfl rfl (by repeat (first | exact Sels.nil | apply Sels.ro (by with_reducible repeat (first | exact zS .. | apply zO)) (by rfl) | apply Sels.own (by with_reducible repeat (first | exact Sel.head | apply Sel.tail)))) ?_
 (try clear hS); rintro _ m _ ⟨rfl, rfl⟩ hS; (try simp only [zN] at hS); refine ⟨_, rfl, ?_⟩
 by_cases h5 : a.turns = b.turns
 rotate_left
 · refine RL.eqv (v' := .bool false) (zV (dF h5)) ?_
   refine RL.A1 T_ok rfl ?_
   refine RL.N1 ?_; (with_reducible repeat (first | refine QN.B1 ?_ | refine QN.N1 ?_ | refine WP.S1 ?_ | refine WP.B1 ?_ | refine WP.R1 ?_))
   refine WP.ret ?_; (with_reducible repeat (first | refine QN.tr ?_ | refine QN.br ?_))
   exact QN.ret1 rfl rfl (fin _ _ _ (by unfold Msg.same; simp [h0, h1, h2, h3, h4, h5]) hS)
 refine RL.eqv (v' := .bool true) (zV (dT h5)) ?_
 refine RL.pure T_ok 3 rfl ?_
 refine RL.loadM T_ok hS rfl rfl rfl (by with_reducible repeat (first | exact zS .. | apply zO)) (by rfl) (by rfl) ?_
 refine RL.pure T_ok 1 rfl ?_
 refine RL.loadM T_ok hS rfl rfl rfl (by with_reducible repeat (first | exact zS .. | apply zO)) (by rfl) (by rfl) ?_
 refine RL.callM (fi := []) (ca := []) hS (hbytes_s _ _ a.b b.b) rfl rfl rfl rfl (by repeat (first | exact Sels.nil | apply Sels.ro (by with_reducible repeat (first | exact zS .. | apply zO)) (by rfl) | apply Sels.own (by with_reducible repeat (first | exact Sel.head | apply Sel.tail)))) ?_
 (try clear hS); rintro _ m _ ⟨rfl, rfl⟩ hS; (try simp only [zN] at hS); refine ⟨_, rfl, ?_⟩
 by_cases h6 : a.b = b.b
 rotate_left
 · refine RL.eqv (v' := .bool false) (zV (dF h6)) ?_
   refine RL.A1 T_ok rfl ?_
   refine RL.N1 ?_; (with_reducible repeat (first | refine QN.B1 ?_ | refine QN.N1 ?_ | refine WP.S1 ?_ | refine WP.B1 ?_ | refine WP.R1 ?_))
   refine WP.ret ?_; (with_reducible repeat (first | refine QN.tr ?_ | refine QN.br ?_))
   exact QN.ret1 rfl rfl (fin _ _ _ (by unfold Msg.same; simp [h0, h1, h2, h3, h4, h5, h6]) hS)
 refine RL.eqv (v' := .bool true) (zV (dT h6)) ?_
 refine RL.A1 T_ok rfl ?_
 refine RL.N1 ?_; (with_reducible repeat (first | refine QN.B1 ?_ | refine QN.N1 ?_ | refine WP.S1 ?_ | refine WP.B1 ?_ | refine WP.R1 ?_))
 refine WP.ret ?_; (with_reducible repeat (first | refine QN.tr ?_ | refine QN.br ?_))
 exact QN.ret1 rfl rfl (fin _ _ _ (by unfold Msg.same; simp [h0, h1, h2, h3, h4, h5, h6]) hS)
def ex1 : Msg := ⟨4, 0, 5, [], [], [], []⟩
def ex2 : Msg := ⟨1, 3, 0, [114], [⟨1, 2⟩], [], []⟩
def ex3 : Msg := ⟨4, 0, 0, [], [], [], []⟩
theorem ex1_ok : Msg.Ok txt ex1 := (ok46_iff (.inl rfl)).2 ⟨rfl, rfl, rfl, rfl, by decide, by decide⟩
theorem ex2_clean : vclean [⟨1, 2⟩] = [⟨1, 2⟩] := by decide
theorem ex2_ok : Msg.Ok txt ex2 := ok1_iff.2 ⟨⟨rfl, rfl, by rw [ex2_clean]; decide, by rw [tnorm_nil]; decide⟩, by decide, by decide, by decide, by decide, by decide⟩
theorem ex3_ok : Msg.ok txt ex3 = false := by
 rw [← Bool.not_eq_true, ok_iff]
 intro h
 have := ((ok46_iff (.inl rfl)).1 h).2.2.2.2.1
 exact absurd this (by decide)
theorem ex1_enc : ex1.enc = [4, 5] := by
 show UInt8.ofNat 4 :: encU 5 = _
 rw [encU_small (by omega)]
 rfl
theorem ex_fit1 : ex1.Fit := ⟨by decide, by decide, by decide, by decide⟩
theorem ex_fit2 : ex2.Fit := ⟨by decide, by decide, by decide, by decide⟩
theorem ex_fit3 : ex3.Fit := ⟨by decide, by decide, by decide, by decide⟩
set_option maxRecDepth 20000 in
theorem known_s : DoS Tryz.prog 6 [] [tabA] (fun r H => r = .bool true ∧ H = []) := by
 intro m0 X hS
 obtain ⟨PP, hP⟩ : ∃ PP, ofps [tabA] = PP := ⟨_, rfl⟩
 rw [hP] at hS ⊢
 clear hP
 have hS := ((hS.nilRo 2 (by omega)).nilRo 4 (by omega)).nilRo 1 (by omega)
 refine FnE.enter ⟨_, Tryz.func6, by kernel_rfl, by kernel_rfl⟩ Tryz.func6 rfl rfl ?_
 (with_reducible repeat (first | refine WP.S1 ?_ | refine WP.B1 ?_ | refine WP.R1 ?_))
 refine RL.A1 T_ok rfl ?_
 refine RL.N1 ?_; (with_reducible repeat (first | refine QN.B1 ?_ | refine QN.N1 ?_ | refine WP.S1 ?_ | refine WP.B1 ?_ | refine WP.R1 ?_))
 refine RL.A1 T_ok rfl ?_
 refine RL.callM (fi := []) (ca := []) hS (mwrite_s ex1 (.slice none 0 0) (.slice none 0 0) (.slice none 0 0) ex_fit1) rfl rfl rfl rfl (by unfold mR; exact (by repeat (first | exact Sels.nil | apply Sels.ro (by repeat (first | exact zS .. | with_reducible apply zO)) (by rfl) | apply Sels.own (by repeat (first | exact Sel.head | with_reducible apply Sel.tail))))) ?_
 (try clear hS)
 rintro r m H' hW hS
 rcases hW with ⟨_, w1, S1, rfl, rfl⟩ | ⟨h, _⟩
 rotate_left
 · rw [ok_iff.2 ex1_ok] at h; cases h
 refine ⟨_, rfl, ?_⟩
 rw [ex1_enc] at hS
 have hS := Tr.freeze hS (by omega)
 simp only [List.append_eq, List.nil_append] at hS
 refine RL.A1 T_ok rfl ?_
 refine RL.N1 ?_; (with_reducible repeat (first | refine QN.B1 ?_ | refine QN.N1 ?_ | refine WP.S1 ?_ | refine WP.B1 ?_ | refine WP.R1 ?_))
 refine RL.A1 T_ok rfl ?_
 refine RL.litM T_ok hS [.tmp 17] (us := [.agg #[.int .u64 1, .int .u64 2]]) (([⟨1, 2⟩] : List Clk).flatMap cC) rfl rfl rfl rfl rfl rfl (by simp [Value.cells]) rfl rfl rfl ?_
 clear hS
 intro bk m hS
 refine ⟨_, rfl, ?_⟩
 have hS := Tr.freeze hS (by decide)
 refine RL.A1 T_ok rfl ?_
 refine RL.callM (fi := []) (ca := []) hS (mwrite_s ex2 (.slice (some ⟨bk, 0, none⟩) 1 1) (.slice none 0 0) (.slice none 0 0) ex_fit2) rfl rfl rfl rfl (by unfold mR; exact (by repeat (first | exact Sels.nil | apply Sels.ro (by repeat (first | exact zS .. | with_reducible apply zO)) (by rfl) | apply Sels.own (by repeat (first | exact Sel.head | with_reducible apply Sel.tail))))) ?_
 (try clear hS)
 rintro r m H' hW hS
 rcases hW with ⟨_, w2, S2, rfl, rfl⟩ | ⟨h, _⟩
 rotate_left
 · rw [ok_iff.2 ex2_ok] at h; cases h
 refine ⟨_, rfl, ?_⟩
 have hS := Tr.freeze hS (by omega)
 simp only [List.append_eq, List.nil_append] at hS
 have hel := enc_len ex2_ok ex_fit2
 have hsz : ex2.enc.length ≤ 100 := by
   show (UInt8.ofNat 1 :: (encU 3 ++ (encS [114] ++ (encV (vclean [⟨1, 2⟩]) ++ encTs (tnorm []))))).length ≤ 100
   rw [tnorm_nil, ex2_clean]
   have h1 := encU_len10 (n := 3) (by omega)
   have h2 := encS_len [114] (by decide)
   have h3 := encL_len 0 [⟨1, 2⟩] (by intro x hx; have : x = ⟨1, 2⟩ := by simpa using hx
                                      subst this; unfold Clk.ok; decide)
   have h4 := encU_len10 (n := ([⟨1, 2⟩] : List Clk).length) (by decide)
   have h5 := encU_len10 (n := ([] : List Trn).length) (by decide)
   simp only [encV, encTs, List.length_cons, zL, List.flatMap_nil, List.length_nil] at *
   omega
 refine RL.A1 T_ok rfl ?_
 refine RL.N1 ?_; (with_reducible repeat (first | refine QN.B1 ?_ | refine QN.N1 ?_ | refine WP.S1 ?_ | refine WP.B1 ?_ | refine WP.R1 ?_))
 refine RL.A1 T_ok rfl ?_
 refine RL.callM (fi := []) (ca := []) hS (msgread_s w2 ex2.enc (by omega)) rfl rfl rfl rfl (by repeat (first | exact Sels.nil | apply Sels.ro (by with_reducible repeat (first | exact zS .. | apply zO)) (by rfl) | apply Sels.own (by with_reducible repeat (first | exact Sel.head | apply Sel.tail)))) ?_
 (try clear hS)
 rw [read_back ex2_ok]
 rintro r m H' ⟨vv, tv, bv, rfl, rfl⟩ hS
 refine ⟨_, rfl, ?_⟩
 simp only [mR, zN, zC] at hS
 obtain ⟨vA, vc, rfl, _, _⟩ := Sl.shape (n := 1) (hS.mem (A := roA 2 vv (ex2.clean.vec.flatMap cC)) (by simp)).1 (by show ((vclean [⟨1, 2⟩]).flatMap cC).length = _; rw [ex2_clean]; rfl) (by omega)
 have ones : (mC ex2.clean (.slice vA 1 vc) tv bv).all Value.oneCell' = true := by
   simp only [mC, List.all_cons, List.all_nil, (hS.mem (A := roA 2 (.slice vA 1 vc) (ex2.clean.vec.flatMap cC)) (by simp)).1.one, (hS.mem (A := roA 4 tv (ex2.clean.turns.flatMap tC)) (by simp)).1.one, (hS.mem (A := roA 1 bv (u8s ex2.clean.b)) (by simp)).1.one]
   rfl
 refine RL.A1 T_ok rfl ?_
 refine RL.allocS T_ok rfl hS rfl rfl ?_; (try clear hS); intro b5 m hS; refine ⟨_, rfl, ?_⟩
 refine RL.ssM T_ok hS (vs := mC ex2.clean (.slice vA 1 vc) tv bv) rfl rfl rfl rfl rfl ones (by rfl) (by with_reducible repeat (first | exact Rep.head | apply Rep.tail)) (by rfl) ?_
 (try clear hS); intro m hS
 change Tr m0 PP X m (blkA b5 27 [.int .i64 1, .int .u64 3, .int .u64 0, .string (str [114]), .slice vA 1 vc, tv, bv] :: _) at hS
 refine RL.A1 T_ok rfl ?_
 refine RL.N1 ?_; (with_reducible repeat (first | refine QN.B1 ?_ | refine QN.N1 ?_ | refine WP.S1 ?_ | refine WP.B1 ?_ | refine WP.R1 ?_))
 refine RL.A1 T_ok rfl ?_
 refine RL.callM (fi := []) (ca := []) hS (copy_s w2 ex2.enc (by omega)) rfl rfl rfl rfl (by repeat (first | exact Sels.nil | apply Sels.ro (by with_reducible repeat (first | exact zS .. | apply zO)) (by rfl) | apply Sels.own (by with_reducible repeat (first | exact Sel.head | apply Sel.tail)))) ?_
 (try clear hS); rintro w3 m _ ⟨S3, rfl⟩ hS; (try simp only [zC, zN] at hS); refine ⟨_, rfl, ?_⟩
 refine RL.append1M T_ok hS [.const (.int .u8 0)] (u8s [0]) rfl rfl rfl rfl rfl rfl rfl rfl rfl rfl (by repeat (first | exact Sel.head | apply Sel.tail)) (by simp [Value.cells]) (by decide) (by unfold maxLen; omega) (by show (_ + _) * 1 ≤ _; omega) ?_
 clear hS
 intro bb w4 m S4 hS
 refine ⟨_, rfl, ?_⟩
 have hS := Tr.freeze hS (by decide)
 rw [show u8s ex2.enc ++ u8s [0] = u8s (ex2.enc ++ [0]) by simp [u8s]] at hS
 refine RL.A1 T_ok rfl ?_
 refine RL.callM (fi := []) (ca := []) hS (msgread_s w4 (ex2.enc ++ [0]) (by simp only [zL, List.length_singleton]; omega)) rfl rfl rfl rfl (by repeat (first | exact Sels.nil | apply Sels.ro (by repeat (first | exact zS .. | with_reducible apply zO)) (by rfl) | apply Sels.own (by repeat (first | exact Sel.head | with_reducible apply Sel.tail)))) ?_
 (try clear hS)
 rw [read_more ex2_ok (by simp)]
 rintro r m H' ⟨rfl, rfl⟩ hS
 refine ⟨_, rfl, ?_⟩
 simp only [zN] at hS
 refine RL.A1 T_ok rfl ?_
 refine RL.allocS T_ok rfl hS rfl rfl ?_; (try clear hS); intro b7 m hS; refine ⟨_, rfl, ?_⟩
 refine RL.ssM T_ok hS (vs := zM) rfl rfl rfl rfl rfl (by rfl) (by rfl) (by with_reducible repeat (first | exact Rep.head | apply Rep.tail)) (by rfl) ?_
 (try clear hS); intro m hS
 refine RL.A1 T_ok rfl ?_
 refine RL.N1 ?_; (with_reducible repeat (first | refine QN.B1 ?_ | refine QN.N1 ?_ | refine WP.S1 ?_ | refine WP.B1 ?_ | refine WP.R1 ?_))
 refine RL.A1 T_ok rfl ?_
 refine RL.callM (fi := []) (ca := []) hS (mwrite_s ex3 (.slice none 0 0) (.slice none 0 0) (.slice none 0 0) ex_fit3) rfl rfl rfl rfl (by unfold mR; exact (by repeat (first | exact Sels.nil | apply Sels.ro (by repeat (first | exact zS .. | with_reducible apply zO)) (by rfl) | apply Sels.own (by repeat (first | exact Sel.head | with_reducible apply Sel.tail))))) ?_
 (try clear hS)
 rintro r m H' hW hS
 rcases hW with ⟨h, _⟩ | ⟨_, rfl, rfl⟩
 · rw [ex3_ok] at h; cases h
 refine ⟨_, rfl, ?_⟩
 simp only [zN] at hS
 refine RL.A1 T_ok rfl ?_
 refine RL.N1 ?_; (with_reducible repeat (first | refine QN.B1 ?_ | refine QN.N1 ?_ | refine WP.S1 ?_ | refine WP.B1 ?_ | refine WP.R1 ?_))
 refine RL.A1 T_ok rfl ?_
 refine RL.litM T_ok hS [.const (.int .u8 4), .const (.int .u8 5)] (us := [.int .u8 4, .int .u8 5]) (u8s [4, 5]) rfl rfl rfl rfl rfl rfl (by simp [Value.cells]) rfl rfl rfl ?_
 clear hS
 intro bl m hS
 refine ⟨_, rfl, ?_⟩
 have hS := Tr.freeze hS (by decide)
 refine RL.callM (fi := []) (ca := []) hS (hbytes_s w1 _ [4, 5] [4, 5]) rfl rfl rfl rfl (by repeat (first | exact Sels.nil | apply Sels.ro (by with_reducible repeat (first | exact zS .. | apply zO)) (by rfl) | apply Sels.own (by with_reducible repeat (first | exact Sel.head | apply Sel.tail)))) ?_
 (try clear hS); rintro _ m _ ⟨rfl, rfl⟩ hS; (try simp only [zN] at hS); refine ⟨_, rfl, ?_⟩
 repeat (first | refine RL.autoP T_ok rfl rfl ?_ | refine RL.loadM T_ok hS rfl rfl rfl (by with_reducible repeat (first | exact zS .. | apply zO)) (by rfl) (by rfl) ?_ | refine RL.lsM T_ok hS rfl rfl rfl (by with_reducible repeat (first | exact zS .. | apply zO)) (by rfl) (by rfl) (by rfl) ?_)
 refine RL.pure T_ok 1 rfl ?_
 refine RL.eqv (v' := .bool true) (zV ((str_eq [114] [114]).trans (dT rfl))) ?_
 repeat (first | refine RL.autoP T_ok rfl rfl ?_ | refine RL.loadM T_ok hS rfl rfl rfl (by with_reducible repeat (first | exact zS .. | apply zO)) (by rfl) (by rfl) ?_ | refine RL.lsM T_ok hS rfl rfl rfl (by with_reducible repeat (first | exact zS .. | apply zO)) (by rfl) (by rfl) (by rfl) ?_ | (refine RL.N1 ?_; (with_reducible repeat (first | refine QN.B1 ?_ | refine QN.N1 ?_))) | with_reducible refine WP.S1 ?_ | with_reducible refine WP.B1 ?_ | with_reducible refine WP.R1 ?_ | (refine WP.skip ?_; (with_reducible repeat (first | refine QN.B1 ?_ | refine QN.N1 ?_))) | refine WP.condT rfl ?_ | refine WP.condF rfl ?_)
 refine WP.ret ?_; (with_reducible repeat (first | refine QN.tr ?_ | refine QN.br ?_))
 exact QN.ret1 rfl rfl ⟨_, rfl, [], ⟨rfl, rfl⟩, Tr.drop (H := []) hS⟩
end Go.Proofs.YtmjpcaiehfimgaaGreatDoor
end
section
namespace Go.Proofs.YtmjpcaiehfimgaaGreatDoor
open Go.RowKit Go.Ev Go.Ids
theorem ok_cfit {g : Msg} (h : Msg.Ok txt g) : g.clean.Fit := by
 unfold Msg.Ok at h
 have h0 : vclean [] = [] := vclean_nil
 have key : ∀ {K : Int} {c n : Nat} {room b : List UInt8} {vec : List Clk} {turns : List Trn}, room.length ≤ 32 → (vclean vec).length ≤ 16384 → (tnorm turns).length ≤ 16384 → b.length ≤ 1048576 → (Msg.clean ⟨K, c, n, room, vec, turns, b⟩).Fit := fun h1 h2 h3 h4 =>
   ⟨by simp only [Msg.clean]; omega, by simp only [Msg.clean]; omega, by simp only [Msg.clean]; omega, by simp only [Msg.clean]; omega⟩
 obtain ⟨K, c, n, room, vec, turns, b⟩ := g
 simp only at h
 rcases h with ⟨_, _, rfl, h4, h5, h6⟩ | ⟨_, _, rfl, rfl, rfl, h6, _⟩ | ⟨_, _, rfl, rfl, rfl, rfl, _⟩
 · exact key (by rcases h6 with h | h
                 · exact h.2.2.2.2.1
                 · rw [h.2.2]; simp) h4 h5 (by simp)
 · exact key (by simp) (by rw [vclean_nil]; simp) (by rw [tnorm_nil]; simp) h6
 · exact key (by simp) (by rw [vclean_nil]; simp) (by rw [tnorm_nil]; simp) (by simp)
theorem read_fit {l : List UInt8} {x : Msg} (h : readP txt l = some x) : x.Fit := by
 obtain ⟨m, h1, _, rfl⟩ := readP_some.1 h
 exact ok_cfit h1
theorem same_self (g : Msg) : g.same g = true := Msg.same_iff.2 rfl
theorem mC_one {m0 m : World} {M0 X : List Nat} {H : List Asn} {g : Msg} {vv tv bv : Value} (hS : Tr m0 M0 X m H) (h1 : roA 2 vv (g.vec.flatMap cC) ∈ H) (h2 : roA 4 tv (g.turns.flatMap tC) ∈ H) (h3 : roA 1 bv (u8s g.b) ∈ H) : (mC g vv tv bv).all Value.oneCell' = true := by
 simp only [mC, List.all_cons, List.all_nil, (hS.mem h1).1.one, (hS.mem h2).1.one, (hS.mem h3).1.one]
 rfl
def TrueP (r : Value) (H : List Asn) : Prop := r = .bool true ∧ H = []
set_option maxRecDepth 20000 in
theorem msgReads_s (v : Value) (l : List UInt8) : DoS Tryz.prog 4 [v] [tabA, roA 1 v (u8s l)] TrueP := by
 intro m0 X hS
 obtain ⟨PP, hP⟩ : ∃ PP, ofps ([tabA, roA 1 v (u8s l)]) = PP := ⟨_, rfl⟩
 rw [hP] at hS ⊢
 clear hP
 obtain ⟨vA, vc, rfl, _⟩ := Bs.shape (hS.mem (A := roA 1 v (u8s l)) (by simp)).1
 have hS := ((hS.nilRo 2 (by omega)).nilRo 4 (by omega)).nilRo 1 (by omega)
 refine FnE.enter ⟨_, Tryz.func4, by kernel_rfl, by kernel_rfl⟩ Tryz.func4 rfl rfl ?_
 (with_reducible repeat (first | refine WP.S1 ?_ | refine WP.B1 ?_ | refine WP.R1 ?_))
 refine RL.A1 T_ok rfl ?_
 refine RL.N1 ?_; (with_reducible repeat (first | refine QN.B1 ?_ | refine QN.N1 ?_ | refine WP.S1 ?_ | refine WP.B1 ?_ | refine WP.R1 ?_))
 refine RL.A1 T_ok rfl ?_
 refine RL.callM (fi := []) (ca := []) hS known_s rfl rfl rfl rfl (by repeat (first | exact Sels.nil | apply Sels.ro (by with_reducible repeat (first | exact zS .. | apply zO)) (by rfl) | apply Sels.own (by with_reducible repeat (first | exact Sel.head | apply Sel.tail)))) ?_
 (try clear hS); rintro _ m _ ⟨rfl, rfl⟩ hS; (try simp only [zN] at hS); refine ⟨_, rfl, ?_⟩
 refine RL.A1 T_ok rfl ?_
 refine RL.N1 ?_; (with_reducible repeat (first | refine QN.B1 ?_ | refine QN.N1 ?_ | refine WP.S1 ?_ | refine WP.B1 ?_ | refine WP.R1 ?_))
 refine WP.condF rfl ?_
 refine WP.skip ?_; (with_reducible repeat (first | refine QN.B1 ?_ | refine QN.N1 ?_ | refine WP.S1 ?_ | refine WP.B1 ?_ | refine WP.R1 ?_))
 refine RL.pure T_ok 3 rfl ?_
 by_cases hl : l.length ≤ 3000
 rotate_left
 · refine RL.eqv (v' := .bool true) (zV (dT (by omega))) ?_
   repeat (first | refine RL.autoP T_ok rfl rfl ?_ | refine RL.loadM T_ok hS rfl rfl rfl (by with_reducible repeat (first | exact zS .. | apply zO)) (by rfl) (by rfl) ?_ | refine RL.lsM T_ok hS rfl rfl rfl (by with_reducible repeat (first | exact zS .. | apply zO)) (by rfl) (by rfl) (by rfl) ?_ | (refine RL.N1 ?_; (with_reducible repeat (first | refine QN.B1 ?_ | refine QN.N1 ?_))) | with_reducible refine WP.S1 ?_ | with_reducible refine WP.B1 ?_ | with_reducible refine WP.R1 ?_ | (refine WP.skip ?_; (with_reducible repeat (first | refine QN.B1 ?_ | refine QN.N1 ?_))) | refine WP.condT rfl ?_ | refine WP.condF rfl ?_)
   refine WP.ret ?_; (with_reducible repeat (first | refine QN.tr ?_ | refine QN.br ?_))
   exact QN.ret1 rfl rfl ⟨_, rfl, [], ⟨rfl, rfl⟩, Tr.drop (H := []) hS⟩
 refine RL.eqv (v' := .bool false) (zV (dF (by omega))) ?_
 refine RL.N1 ?_; (with_reducible repeat (first | refine QN.B1 ?_ | refine QN.N1 ?_ | refine WP.S1 ?_ | refine WP.B1 ?_ | refine WP.R1 ?_))
 refine WP.condF rfl ?_
 refine WP.skip ?_; (with_reducible repeat (first | refine QN.B1 ?_ | refine QN.N1 ?_ | refine WP.S1 ?_ | refine WP.B1 ?_ | refine WP.R1 ?_))
 refine RL.A1 T_ok rfl ?_
 refine RL.callM (fi := []) (ca := []) hS (copy_s (.slice vA l.length vc) l (by omega)) rfl rfl rfl rfl (by repeat (first | exact Sels.nil | apply Sels.ro (by repeat (first | exact zS .. | with_reducible apply zO)) (by rfl) | apply Sels.own (by repeat (first | exact Sel.head | with_reducible apply Sel.tail)))) ?_
 (try clear hS); rintro w m _ ⟨S1, rfl⟩ hS; (try simp only [zC, zN] at hS); refine ⟨_, rfl, ?_⟩
 have hS := Tr.freeze hS (by omega)
 refine RL.A1 T_ok rfl ?_
 refine RL.N1 ?_; (with_reducible repeat (first | refine QN.B1 ?_ | refine QN.N1 ?_ | refine WP.S1 ?_ | refine WP.B1 ?_ | refine WP.R1 ?_))
 refine RL.A1 T_ok rfl ?_
 refine RL.callM (fi := []) (ca := []) hS (msgread_s w l (by omega)) rfl rfl rfl rfl (by repeat (first | exact Sels.nil | apply Sels.ro (by with_reducible repeat (first | exact zS .. | apply zO)) (by rfl) | apply Sels.own (by with_reducible repeat (first | exact Sel.head | apply Sel.tail)))) ?_
 (try clear hS)
 have hsame := read_same txt l
 cases hr : readP txt l with
 | none =>
   rw [hr] at hsame
   rintro r m H' ⟨rfl, rfl⟩ hS
   refine ⟨_, rfl, ?_⟩
   simp only [zN] at hS
   refine RL.A1 T_ok rfl ?_
   refine RL.allocS T_ok rfl hS rfl rfl ?_; (try clear hS); intro b4 m hS; refine ⟨_, rfl, ?_⟩
   refine RL.ssM T_ok hS (vs := zM) rfl rfl rfl rfl rfl (by rfl) (by rfl) (by with_reducible repeat (first | exact Rep.head | apply Rep.tail)) (by rfl) ?_
   (try clear hS); intro m hS
   change Tr m0 PP X m (blkA b4 27 (mC Msg.zero (.slice none 0 0) (.slice none 0 0) (.slice none 0 0)) :: _) at hS
   refine RL.A1 T_ok rfl ?_
   refine RL.N1 ?_; (with_reducible repeat (first | refine QN.B1 ?_ | refine QN.N1 ?_ | refine WP.S1 ?_ | refine WP.B1 ?_ | refine WP.R1 ?_))
   refine RL.A1 T_ok rfl ?_
   refine RL.callM (fi := []) (ca := []) hS (refread_s (.slice vA l.length vc) l hl) rfl rfl rfl rfl (by repeat (first | exact Sels.nil | apply Sels.ro (by repeat (first | exact zS .. | with_reducible apply zO)) (by rfl) | apply Sels.own (by repeat (first | exact Sel.head | with_reducible apply Sel.tail)))) ?_
   (try clear hS)
   rw [← hsame]
   rintro r m H' ⟨rfl, rfl⟩ hS
   refine ⟨_, rfl, ?_⟩
   simp only [zN] at hS
   refine RL.A1 T_ok rfl ?_
   refine RL.allocS T_ok rfl hS rfl rfl ?_; (try clear hS); intro b6 m hS; refine ⟨_, rfl, ?_⟩
   refine RL.ssM T_ok hS (vs := zM) rfl rfl rfl rfl rfl (by rfl) (by rfl) (by with_reducible repeat (first | exact Rep.head | apply Rep.tail)) (by rfl) ?_
   (try clear hS); intro m hS
   change Tr m0 PP X m (blkA b6 27 (mC Msg.zero (.slice none 0 0) (.slice none 0 0) (.slice none 0 0)) :: _) at hS
   refine RL.A1 T_ok rfl ?_
   refine RL.N1 ?_; (with_reducible repeat (first | refine QN.B1 ?_ | refine QN.N1 ?_ | refine WP.S1 ?_ | refine WP.B1 ?_ | refine WP.R1 ?_))
   refine RL.A1 T_ok rfl ?_
   refine RL.lsM T_ok hS (b := b4) (cs := mC Msg.zero (.slice none 0 0) (.slice none 0 0) (.slice none 0 0)) (vs := mC Msg.zero (.slice none 0 0) (.slice none 0 0) (.slice none 0 0)) rfl rfl rfl (by repeat (first | exact zS .. | with_reducible apply zO)) rfl rfl rfl ?_
   refine RL.lsM T_ok hS (b := b6) (cs := mC Msg.zero (.slice none 0 0) (.slice none 0 0) (.slice none 0 0)) (vs := mC Msg.zero (.slice none 0 0) (.slice none 0 0) (.slice none 0 0)) rfl rfl rfl (by repeat (first | exact zS .. | with_reducible apply zO)) rfl rfl rfl ?_
   refine RL.callM (fi := []) (ca := []) hS (lsame_s Msg.zero Msg.zero (.slice none 0 0) (.slice none 0 0) (.slice none 0 0) (.slice none 0 0) (.slice none 0 0) (.slice none 0 0) ⟨by decide, by decide, by decide, by decide⟩) rfl rfl rfl rfl (by unfold mR; simp only [zC, zN]; exact (by repeat (first | exact Sels.nil | apply Sels.ro (by repeat (first | exact zS .. | with_reducible apply zO)) (by rfl) | apply Sels.own (by repeat (first | exact Sel.head | with_reducible apply Sel.tail))))) ?_
   (try clear hS); rintro _ m _ ⟨rfl, rfl⟩ hS; (try simp only [zN] at hS); refine ⟨_, rfl, ?_⟩
   refine RL.eqv (v' := .bool true) (zV (same_self _)) ?_
   refine RL.A1 T_ok rfl ?_
   refine RL.callM (fi := []) (ca := []) hS (hbytes_s w (.slice vA l.length vc) l l) rfl rfl rfl rfl (by repeat (first | exact Sels.nil | apply Sels.ro (by repeat (first | exact zS .. | with_reducible apply zO)) (by rfl) | apply Sels.own (by repeat (first | exact Sel.head | with_reducible apply Sel.tail)))) ?_
   (try clear hS); rintro _ m _ ⟨rfl, rfl⟩ hS; (try simp only [zN] at hS); refine ⟨_, rfl, ?_⟩
   refine RL.eqv (v' := .bool true) (zV (dT rfl)) ?_
   refine RL.A1 T_ok rfl ?_
   refine RL.N1 ?_; (with_reducible repeat (first | refine QN.B1 ?_ | refine QN.N1 ?_ | refine WP.S1 ?_ | refine WP.B1 ?_ | refine WP.R1 ?_))
   refine WP.ret ?_; (with_reducible repeat (first | refine QN.tr ?_ | refine QN.br ?_))
   exact QN.ret1 rfl rfl ⟨_, rfl, [], ⟨rfl, rfl⟩, Tr.drop (H := []) hS⟩
 | some x =>
   rw [hr] at hsame
   have hx := read_fit hr
   rintro r m H' ⟨v4, t4, b4v, rfl, rfl⟩ hS
   refine ⟨_, rfl, ?_⟩
   simp only [mR, zN, zC] at hS
   refine RL.A1 T_ok rfl ?_
   refine RL.allocS T_ok rfl hS rfl rfl ?_; (try clear hS); intro b4 m hS; refine ⟨_, rfl, ?_⟩
   refine RL.ssM T_ok hS (vs := mC x v4 t4 b4v) rfl rfl rfl rfl rfl (mC_one hS (by simp) (by simp) (by simp)) (by rfl) (by with_reducible repeat (first | exact Rep.head | apply Rep.tail)) (by rfl) ?_
   (try clear hS); intro m hS
   change Tr m0 PP X m (blkA b4 27 (mC x v4 t4 b4v) :: _) at hS
   refine RL.A1 T_ok rfl ?_
   refine RL.N1 ?_; (with_reducible repeat (first | refine QN.B1 ?_ | refine QN.N1 ?_ | refine WP.S1 ?_ | refine WP.B1 ?_ | refine WP.R1 ?_))
   refine RL.A1 T_ok rfl ?_
   refine RL.callM (fi := []) (ca := []) hS (refread_s (.slice vA l.length vc) l hl) rfl rfl rfl rfl (by repeat (first | exact Sels.nil | apply Sels.ro (by repeat (first | exact zS .. | with_reducible apply zO)) (by rfl) | apply Sels.own (by repeat (first | exact Sel.head | with_reducible apply Sel.tail)))) ?_
   (try clear hS)
   rw [← hsame]
   rintro r m H' ⟨v6, t6, b6v, rfl, rfl⟩ hS
   refine ⟨_, rfl, ?_⟩
   simp only [mR, zN, zC] at hS
   refine RL.A1 T_ok rfl ?_
   refine RL.allocS T_ok rfl hS rfl rfl ?_; (try clear hS); intro b6 m hS; refine ⟨_, rfl, ?_⟩
   refine RL.ssM T_ok hS (vs := mC x v6 t6 b6v) rfl rfl rfl rfl rfl (mC_one hS (by simp) (by simp) (by simp)) (by rfl) (by with_reducible repeat (first | exact Rep.head | apply Rep.tail)) (by rfl) ?_
   (try clear hS); intro m hS
   change Tr m0 PP X m (blkA b6 27 (mC x v6 t6 b6v) :: _) at hS
   refine RL.A1 T_ok rfl ?_
   refine RL.N1 ?_; (with_reducible repeat (first | refine QN.B1 ?_ | refine QN.N1 ?_ | refine WP.S1 ?_ | refine WP.B1 ?_ | refine WP.R1 ?_))
   refine RL.A1 T_ok rfl ?_
   refine RL.lsM T_ok hS (b := b4) (cs := mC x v4 t4 b4v) (vs := mC x v4 t4 b4v) rfl rfl rfl (by repeat (first | exact zS .. | with_reducible apply zO)) rfl rfl rfl ?_
   refine RL.lsM T_ok hS (b := b6) (cs := mC x v6 t6 b6v) (vs := mC x v6 t6 b6v) rfl rfl rfl (by repeat (first | exact zS .. | with_reducible apply zO)) rfl rfl rfl ?_
   refine RL.callM (fi := []) (ca := []) hS (lsame_s x x v4 t4 b4v v6 t6 b6v hx) rfl rfl rfl rfl (by unfold mR; simp only [zC, zN]; exact (by repeat (first | exact Sels.nil | apply Sels.ro (by repeat (first | exact zS .. | with_reducible apply zO)) (by rfl) | apply Sels.own (by repeat (first | exact Sel.head | with_reducible apply Sel.tail))))) ?_
   (try clear hS); rintro _ m _ ⟨rfl, rfl⟩ hS; (try simp only [zN] at hS); refine ⟨_, rfl, ?_⟩
   refine RL.eqv (v' := .bool true) (zV (same_self _)) ?_
   refine RL.A1 T_ok rfl ?_
   refine RL.callM (fi := []) (ca := []) hS (hbytes_s w (.slice vA l.length vc) l l) rfl rfl rfl rfl (by repeat (first | exact Sels.nil | apply Sels.ro (by repeat (first | exact zS .. | with_reducible apply zO)) (by rfl) | apply Sels.own (by repeat (first | exact Sel.head | with_reducible apply Sel.tail)))) ?_
   (try clear hS); rintro _ m _ ⟨rfl, rfl⟩ hS; (try simp only [zN] at hS); refine ⟨_, rfl, ?_⟩
   refine RL.eqv (v' := .bool true) (zV (dT rfl)) ?_
   refine RL.A1 T_ok rfl ?_
   refine RL.N1 ?_; (with_reducible repeat (first | refine QN.B1 ?_ | refine QN.N1 ?_ | refine WP.S1 ?_ | refine WP.B1 ?_ | refine WP.R1 ?_))
   refine WP.ret ?_; (with_reducible repeat (first | refine QN.tr ?_ | refine QN.br ?_))
   exact QN.ret1 rfl rfl ⟨_, rfl, [], ⟨rfl, rfl⟩, Tr.drop (H := []) hS⟩
end Go.Proofs.YtmjpcaiehfimgaaGreatDoor
end
section
namespace Go.Proofs.YtmjpcaiehfimgaaGreatDoor
open Go.ChangeShapes Go.WideShapes Go.ChangeAt Go.RowKit Go.Ev Go.Ids
abbrev laidL : List (String × DataW Unit) := [("unicode/utf8.acceptRanges", Rows.laid_unicode_utf8_acceptRanges), ("unicode/utf8.first", Rows.laid_unicode_utf8_first)]
theorem first_eq : Rows.laid_unicode_utf8_first = Lib.firstData := by kernel_rfl
theorem accept_eq : (Rows.laid_unicode_utf8_acceptRanges : DataW Unit) = Lib.acceptData := by kernel_rfl
theorem tabs_of {W : World} (h : laidMetH Tryz.prog laidL W) : Tabs (World.undrawn W) [] := by
 rw [MakeChecks.laidMetH_plain _ _ _ (by kernel_rfl)] at h
 have h1 : Lib.Utf8Tabs (Tryz.valid_ren.g 3) (Tryz.valid_ren.g 4) W := utf8Tabs_of_readsT (U8Types.of196 Tryz.valid) ⟨by kernel_rfl, by kernel_rfl, by kernel_rfl, by kernel_rfl, by kernel_rfl, by kernel_rfl, by kernel_rfl⟩
   (first_eq ▸ Lib.laidMet.reads h (.tail _ (.head _))) (accept_eq ▸ Lib.laidMet.reads h (.head _))
 exact ⟨⟨fun c hc => h1.1 c hc, fun i hi => h1.2 i hi⟩, by simp, by simp, rfl⟩
theorem met_any (os : Os) (args : Array Value) : laidMetH Tryz.prog laidL ((World.laidAll Tryz.prog os laidL).forCall (fun _ _ => 0) ⟨#[], args, []⟩).memory := by
 rw [MakeChecks.laidMetH_plain _ _ _ (by kernel_rfl)]
 exact laidMet_laidAll _ (by kernel_rfl) (by kernel_rfl)
end Go.Proofs.YtmjpcaiehfimgaaGreatDoor
end
