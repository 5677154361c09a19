/- Texts that belong together. -/
import Derived.Test.YtgpgladbdoimdaaGreatDoorMAncV7
section
namespace Go.Ev
open Go.RowKit
section
variable {P : Program} {T : Ty} {ops : Array Oper} {Q : Exit → Act → World → Prop} {rest : List Oper} {n : Nat} {e e' : Env} {D : Fr} {m : World}
  {d : Option Tmp} {x : Operand} {t ty : TypeId} {pos : String} {aft : Array Edge} {g : Option (Nat × Bool)} {r : Row}
theorem RL.clear (hT : T.Ok P) {te tb : TypeId} {b off k c : Nat} {cs : List Value} (he : T.elem t = some (te, r)) (hB : Blk m b tb cs) (hg : gd ops e ⟨d, .call ⟨.builtin .clear, #[x], #[t]⟩, ty, pos, aft, g⟩ = some true)
    (hx : e.ev x = some (.slice (some ⟨b, off, none⟩) k c)) (hk : 0 < k) (hlen : off + k * r.size ≤ cs.length) (h1 : ∀ v ∈ (Builtin.zeroCells r.zero.cells k).toList, v.oneCell' = true) (hp : putE n d (.tuple #[]) e = some e')
    (h : ∀ m', Chg m b (.cells (cs.take off ++ (Builtin.zeroCells r.zero.cells k).toList ++ cs.drop (off + k * r.size)).toArray tb (0, 0)) m' → RL P ops Q rest n e' D m') :
    RL P ops Q (⟨d, .call ⟨.builtin .clear, #[x], #[t]⟩, ty, pos, aft, g⟩ :: rest) n e D m := by
  obtain ⟨rt, hrt, hkk, hr, hcz, hsz, _⟩ := Ty.elem_spec he
  have hu := (hT.row hrt).k
  rw [hkk] at hu
  obtain ⟨i, hi, hz0, hz1, _⟩ := (hT.row hr).parts
  have hl := size_zero r.zero.cells k
  rw [hcz] at hl
  refine RL.valueW _ (m.setRow b (cs.take off ++ (Builtin.zeroCells r.zero.cells k).toList ++ cs.drop (off + k * r.size)).toArray) hg (fun a w hf hs => ?_) hp (h _ (setRow_chg hB _))
  have hw : w.heap[b]? = some (.cells cs.toArray tb (0, 0)) := by rw [hs.heap]; exact hB
  have h3 := run_storeCells_at P b off tb (Builtin.zeroCells r.zero.cells k).toList 0 cs.toArray w hw (by rw [List.size_toArray]; omega) h1
  refine ⟨w.setRow b (cs.take off ++ (Builtin.zeroCells r.zero.cells k).toList ++ cs.drop (off + k * r.size)).toArray, ?_, hs.setRow b _⟩
  simp only [Nat.add_zero] at h3
  rw [hl] at h3
  obtain ⟨q, rfl⟩ : ∃ q, k = q + 1 := ⟨k - 1, by omega⟩
  simp [execOp, resolve, invoke, builtin, Builtin.clear_, hf.ev hx, run_underlying hu, zeroValue, typeInfo, hi, hz0]
  simp only [List.append_assoc] at h3
  rw [h3]
  simp
end
theorem Own.cutTo {m : World} {S : List Nat} {t : TypeId} {sz g n cap i : Nat} {xs : List Value} (h : Ev.Own m S t sz (.slice (some ⟨g, 0, none⟩) n cap) n xs) (hn : 0 < n) (hi : i ≤ n) : Ev.Own m S t sz (.slice (some ⟨g, 0, none⟩) i cap) i (xs.take (i * sz)) := by
  obtain ⟨g', cap', cur, hv, hB, h1, h2, h3, h4, rfl⟩ := h.at_ hn
  injection hv with hv hv2 hv3
  injection hv with hv
  injection hv with hv
  subst hv; subst hv3
  have hle : i * sz ≤ n * sz := Nat.mul_le_mul_right _ hi
  refine ⟨?_, .inr ⟨g, cap, cur, rfl, hB, by omega, h2, h3, ?_, rfl⟩⟩
  · rw [List.length_take, h.1]; omega
  · rw [← h4, List.take_take, Nat.min_eq_left hle]
end Go.Ev
namespace Go.Proofs.YtgpgladbdoimdaaGreatDoor
open Go.RowKit Go.Ev Go.Ids
end Go.Proofs.YtgpgladbdoimdaaGreatDoor
end
section
namespace Go.Proofs.YtgpgladbdoimdaaGreatDoor
open Go.RowKit Go.Ev Go.Ids
end Go.Proofs.YtgpgladbdoimdaaGreatDoor
end
section
namespace Go.Proofs.YtgpgladbdoimdaaGreatDoor
open Go.RowKit Go.Ev Go.Ids
end Go.Proofs.YtgpgladbdoimdaaGreatDoor
end
section
namespace Go.Proofs.YtgpgladbdoimdaaGreatDoor
open Go.RowKit Go.Ev Go.Ids
end Go.Proofs.YtgpgladbdoimdaaGreatDoor
end
section
namespace Go.Proofs.YtgpgladbdoimdaaGreatDoor
open Go.RowKit Go.Ev Go.Ids
end Go.Proofs.YtgpgladbdoimdaaGreatDoor
end
section
namespace Go.Proofs.YtgpgladbdoimdaaGreatDoor
open Go.RowKit Go.Ev Go.Ids
end Go.Proofs.YtgpgladbdoimdaaGreatDoor
end
section
namespace Go.Proofs.YtgpgladbdoimdaaGreatDoor
open Go.RowKit Go.Ev Go.Ids
def hid (L : List Trn) : List Rng := (L.filter fun x => decide (x.n % 2 = 1)).map fun x => ⟨x.c, x.f, x.t⟩
end Go.Proofs.YtgpgladbdoimdaaGreatDoor
end
section
namespace Go.Proofs.YtgpgladbdoimdaaGreatDoor
open Go.RowKit Go.Ev Go.Ids
end Go.Proofs.YtgpgladbdoimdaaGreatDoor
end
section
namespace Go.Proofs.YtgpgladbdoimdaaGreatDoor
open Go.RowKit Go.Ev Go.Ids
end Go.Proofs.YtgpgladbdoimdaaGreatDoor
end
section
namespace Go.Proofs.YtgpgladbdoimdaaGreatDoor
open Go.RowKit Go.Ev Go.Ids
theorem WAt.nd {m : World} {b : Nat} {S : List Nat} {l : List UInt8} (h : WAt m b S l) : S.Nodup := by
  obtain ⟨v, S1, _, h2, h3, rfl⟩ := h
  exact List.nodup_cons.2 ⟨h3, h2.nd⟩
def wA (b : Nat) (S : List Nat) (l : List UInt8) : Asn where
  own := S
  P := fun m _ => WAt m b S l
  lt := fun h k hk => h.lt k hk
  keep := fun h hE hn _ _ => h.ext hE hn
def rdA (b : Nat) (l : List UInt8) (e : Int) : Asn where
  own := [b]
  P := fun m M => RAt m M b l e
  lt := fun h k hk => by have : k = b := by simpa using hk
                         subst this; exact h.lt
  keep := fun h hE hn hN hM => h.ext hE (hn b (by simp)) hN hM
def qdA (b : Nat) (l : List UInt8) (e : Int) : Asn where
  own := [b]
  P := fun m M => QAt m M b l e
  lt := fun h k hk => by have : k = b := by simpa using hk
                         subst this; exact h.lt
  keep := fun h hE hn hN hM => h.ext hE (hn b (by simp)) hN hM
theorem Tr.wr {m0 m m' : World} {M0 X : List Nat} {H : List Asn} {b : Nat} {S S' : List Nat} {l l' : List UInt8} (h : Tr m0 M0 X m (wA b S l :: H)) (hW : WAt m' b S' l') (hE : Ext m S m') (hF : FpNew m S S') : Tr m0 M0 X m' (wA b S' l' :: H) := by
  have hn := List.nodup_append.1 (ofps_cons _ _ ▸ h.hold.nd)
  refine h.step (A := wA b S l) hE hF hW.nd (fun k hk hx => ?_) hW
  rcases hF k hk with h1 | h1
  · rcases List.mem_append.1 hx with h2 | h2
    · exact hn.2.2 k h1 k h2 rfl
    · exact h.hold.out k (by rw [ofps_cons]; exact List.mem_append_left _ h1) h2
  · rcases List.mem_append.1 hx with h2 | h2
    · have := h.hold.lt k (by rw [ofps_cons]; exact List.mem_append_right _ h2); omega
    · have := h.xlt k h2; have := h.ext.size; omega
def WP_ (b : Nat) (l : List UInt8) (v : Value) (H : List Asn) : Prop := v = .tuple #[] ∧ ∃ S, H = [wA b S l]
theorem DoS.w {P : Program} {f : FuncId} {args : List Value} {b : Nat} {S : List Nat} {l l' : List UInt8} {R : List Asn} (h : ∀ m X, Tr m (ofps (wA b S l :: R)) X m (wA b S l :: R) → WAt m b S l → FnR P f args m (WPost m b S l')) : DoS P f args (wA b S l :: R) (WP_ b l') := fun m X hT =>
  (h m X hT hT.head).mono fun v m' ⟨hv, S', hW, hE, hF⟩ => ⟨[wA b S' l'], ⟨hv, S', rfl⟩, by
    have h1 : Tr m (ofps (wA b S l :: R)) X m ([wA b S l] ++ R) := hT
    exact (Tr.wr h1 hW hE hF).perm (.refl _) |>.drop (F := R)⟩
theorem wbyte_s (x : UInt8) (b : Nat) (S : List Nat) (l : List UInt8) (hl : l.length < 1000000000) : DoS Tryz.prog 74 [.pointer (some ⟨b, 0, none⟩), .int .u8 x.toNat] [wA b S l] (WP_ b (l ++ [x])) :=
  DoS.w fun m _ _ h => wbyte m x b S l h hl
theorem wuint_s (n : Nat) (hn : n < 18446744073709551616) (b : Nat) (S : List Nat) (l : List UInt8) (hl : l.length < 1000000000) : DoS Tryz.prog 73 [.pointer (some ⟨b, 0, none⟩), .int .u64 n] [wA b S l] (WP_ b (l ++ encU n)) :=
  DoS.w fun m _ _ h => wuint m n hn b S l h hl
theorem wbytes_s (b : Nat) (S : List Nat) (l : List UInt8) (hl : l.length < 1000000000) : DoS Tryz.prog 27 [.pointer (some ⟨b, 0, none⟩)] [wA b S l] (fun r H => ∃ S', H = [ownA S' 5 1 r l.length (u8s l), wA b S l]) := fun m _ hT =>
  (wbytes m b S l hT.head hl).mono fun _ _ ⟨S', hO, hN⟩ => ⟨_, ⟨S', rfl⟩, hT.made hO hN⟩
theorem DoS.made {P : Program} {f : FuncId} {args : List Value} {sz n : Nat} {t : TypeId} {v : Value} {ws xs : List Value} {sz0 : Nat} (h : ∀ m, Sl m [] sz0 v ws → FnR P f args m fun r m' => ∃ S', Ev.Own m' S' t sz r n xs ∧ New m S' m') : DoS P f args [roA sz0 v ws] (fun r H => ∃ S', H = [ownA S' t sz r n xs]) := fun m X hT =>
  (h m (Sl.less (hT.ro 0 rfl) (by simp) hT.head.2)).mono fun r _ ⟨S', hO, hN⟩ => ⟨_, ⟨S', rfl⟩, (hT.made hO hN).perm (.refl _) |>.drop (H := [ownA S' t sz r n xs])⟩
def OP_ (l : List UInt8) (v : Value) (H : List Asn) : Prop := ∃ S, H = [ownA S 5 1 v l.length (u8s l)]
theorem DoS.o {P : Program} {f : FuncId} {args : List Value} {u : Value} {S : List Nat} {l l' : List UInt8} {R : List Asn} (h : ∀ m X, Tr m (ofps (ownA S 5 1 u l.length (u8s l) :: R)) X m (ownA S 5 1 u l.length (u8s l) :: R) → Ev.Own m S 5 1 u l.length (u8s l) → FnR P f args m (OPost m S l')) : DoS P f args (ownA S 5 1 u l.length (u8s l) :: R) (OP_ l') := fun m X hT =>
  (h m X hT hT.head).mono fun v _ ⟨S', hO, hE, hF⟩ => ⟨_, ⟨S', rfl⟩, (hT.grow hO hE hF).perm (.refl _) |>.drop (H := [ownA S' 5 1 v l'.length (u8s l')]) (F := R)⟩
theorem refuint_s (n : Nat) (hn : n < 18446744073709551616) (S : List Nat) (v : Value) (l : List UInt8) (hl : l.length < 1000000000) : DoS Tryz.prog 24 [v, .int .u64 n] [ownA S 5 1 v l.length (u8s l)] (OP_ (l ++ encU n)) :=
  DoS.o fun m _ _ h => refuint_c m n hn S v l h hl
theorem copy_s (v : Value) (l : List UInt8) (hl : l.length < 1000000000) : DoS Tryz.prog 26 [v] [roA 1 v (u8s l)] (fun r H => ∃ S', H = [ownA S' 5 1 r l.length (u8s l)]) :=
  DoS.made fun m h => copy_c m [] v l h hl
theorem DoS.looks {P : Program} {f : FuncId} {args : List Value} {Pre : List Asn} {r : Value} (h : ∀ m X, Tr m (ofps Pre) X m Pre → FnR P f args m fun v m' => v = r ∧ m' = m) : DoS P f args Pre (fun v H => v = r ∧ H = []) := fun m X hT =>
  (h m X hT).mono fun v m' ⟨h1, h2⟩ => ⟨[], ⟨h1, rfl⟩, by subst h2; exact Tr.drop (H := []) (F := Pre) hT⟩
theorem hbytes_s (v u : Value) (a b : List UInt8) : DoS Tryz.prog 28 [v, u] [roA 1 v (u8s a), roA 1 u (u8s b)] (fun r H => r = .bool (decide (a = b)) ∧ H = []) :=
  DoS.looks fun m X hT => hbytes_c m [] v u a b (Sl.less (hT.ro 0 rfl) (by simp) (by omega)) (Sl.less (hT.ro 1 rfl) (by simp) (by omega))
def RP_ {α : Type} (b : Nat) (enc : α → Value) (r : α × St) (v : Value) (H : List Asn) : Prop := v = enc r.1 ∧ H = [rdA b r.2.1 r.2.2]
def QP_ {α : Type} (b : Nat) (enc : α → Value) (r : α × St) (v : Value) (H : List Asn) : Prop := v = enc r.1 ∧ H = [qdA b r.2.1 r.2.2]
theorem DoS.r {P : Program} {f : FuncId} {args : List Value} {α : Type} {enc : α → Value} {b : Nat} {l : List UInt8} {e : Int} {r : α × St} (h : ∀ m M, RAt m M b l e → b ∈ M → FnR P f args m (RPost m M b enc r)) : DoS P f args [rdA b l e] (RP_ b enc r) := fun m X hT =>
  (h m _ hT.head (by simp [ofps_cons, rdA])).mono fun v m' ⟨h1, h2, h3⟩ => ⟨_, ⟨h1, rfl⟩, hT.step_same (B := rdA b r.2.1 r.2.2) h3 rfl h2⟩
theorem DoS.q {P : Program} {f : FuncId} {args : List Value} {α : Type} {enc : α → Value} {b : Nat} {l : List UInt8} {e : Int} {r : α × St} (h : ∀ m M, QAt m M b l e → b ∈ M → FnR P f args m (QPost m M b enc r)) : DoS P f args [qdA b l e] (QP_ b enc r) := fun m X hT =>
  (h m _ hT.head (by simp [ofps_cons, qdA])).mono fun v m' ⟨h1, h2, h3⟩ => ⟨_, ⟨h1, rfl⟩, hT.step_same (B := qdA b r.2.1 r.2.2) h3 rfl h2⟩
theorem ruint_s (b : Nat) (l : List UInt8) (e : Int) (most : Nat) : DoS Tryz.prog 76 [.pointer (some ⟨b, 0, none⟩), .int .u64 most] [rdA b l e] (RP_ b (fun n : Nat => .int .u64 n) (rdN most (l, e))) :=
  DoS.r fun m M h hM => ruint_c m M b l e h hM most
theorem rbyte_s (b : Nat) (l : List UInt8) (e : Int) : DoS Tryz.prog 77 [.pointer (some ⟨b, 0, none⟩)] [rdA b l e] (RP_ b (fun n : UInt8 => .int .u8 n.toNat) (rdB (l, e))) :=
  DoS.r fun m M h hM => rbyte_c m M b l e h hM
theorem quint_s (b : Nat) (l : List UInt8) (e : Int) (most : Nat) : DoS Tryz.prog 32 [.pointer (some ⟨b, 0, none⟩), .int .u64 most] [qdA b l e] (QP_ b (fun n : Nat => .int .u64 n) (rdN most (l, e))) :=
  DoS.q fun m M h hM => quint_c m M b l e h hM most
theorem qbyte_s (b : Nat) (l : List UInt8) (e : Int) : DoS Tryz.prog 33 [.pointer (some ⟨b, 0, none⟩)] [qdA b l e] (QP_ b (fun n : UInt8 => .int .u8 n.toNat) (rdB (l, e))) :=
  DoS.q fun m M h hM => qbyte_c m M b l e h hM
theorem rerr_s (b : Nat) (l : List UInt8) (e : Int) : DoS Tryz.prog 30 [.pointer (some ⟨b, 0, none⟩)] [rdA b l e] (fun r H => r = .int .i64 e ∧ H = [rdA b l e]) := fun m X hT =>
  (err_c m _ b l e hT.head).mono fun v m' ⟨h1, h2⟩ => ⟨_, ⟨h1, rfl⟩, by subst h2; exact hT⟩
theorem rleft_s (b : Nat) (l : List UInt8) (e : Int) : DoS Tryz.prog 31 [.pointer (some ⟨b, 0, none⟩)] [rdA b l e] (fun r H => r = .int .i64 l.length ∧ H = [rdA b l e]) := fun m X hT =>
  (left_c m _ b l e hT.head).mono fun v m' ⟨h1, h2⟩ => ⟨_, ⟨h1, rfl⟩, by subst h2; exact hT⟩
theorem newReader_s (v : Value) (l : List UInt8) (hl : l.length < 1000000000) : DoS Tryz.prog 25 [v] [roA 1 v (u8s l)] (fun r H => ∃ b, r = .pointer (some ⟨b, 0, none⟩) ∧ H = [rdA b l 0]) := fun m X hT => by
  have hS : Bs m X v l := Sl.less (hT.ro 0 rfl) (fun k hk => .inl (by simpa [ofps, roA] using hk)) (by omega)
  refine (newReader_c m X hT.xlt v l hS hl).mono fun r m' ⟨b, h1, h2, h3, h4⟩ => ⟨_, ⟨b, h1, rfl⟩, ?_⟩
  refine Tr.drop (H := [rdA b l 0]) (F := [roA 1 v (u8s l)]) (hT.new (B := rdA b l 0) h4 (fun k hk => ?_) (by simp [rdA]) ?_)
  · obtain rfl : k = b := by simpa [rdA] using hk
    omega
  · simpa [ofps, roA, rdA] using h3
end Go.Proofs.YtgpgladbdoimdaaGreatDoor
end
