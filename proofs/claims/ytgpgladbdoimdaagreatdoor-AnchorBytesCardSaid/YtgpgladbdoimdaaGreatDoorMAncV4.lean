/- Texts that belong together. -/
import Derived.Test.YtgpgladbdoimdaaGreatDoorMAncV3
import Derived.Lib.ValidLaws
import Derived.Laws.CopyRow
import Derived.Lib.Overlaps
section
namespace Go.Proofs.YtgpgladbdoimdaaGreatDoor
open Go.RowKit Go.Ev
end Go.Proofs.YtgpgladbdoimdaaGreatDoor
end
section
namespace Go.Ids
end Go.Ids
end
section
namespace Go.Proofs.YtgpgladbdoimdaaGreatDoor
open Go.RowKit Go.Ev
def TakeP (m : World) (M : List Nat) (b : Nat) (l : List UInt8) (e : Int) (n : Nat) (r : Value) (m' : World) : Prop :=
  Ext m [b] m' ∧ ((e = 0 ∧ n ≤ l.length ∧ Bs m' M r (l.take n) ∧ QAt m' M b (l.drop n) 0) ∨ (e = 0 ∧ l.length < n ∧ r = .slice none 0 0 ∧ QAt m' M b l 10) ∨ (e ≠ 0 ∧ r = .slice none 0 0 ∧ QAt m' M b l e))
theorem qtake_c (m : World) (M : List Nat) (b : Nat) (l : List UInt8) (e : Int) (h : QAt m M b l e) (hbM : b ∈ M) (n : Nat) :
    FnR Tryz.prog 80 [.pointer (some ⟨b, 0, none⟩), .int .i64 n] m (TakeP m M b l e n) := by
  obtain ⟨v, hB, hS⟩ := h
  obtain ⟨A, c, rfl, hlc, hcm⟩ := hS.shape
  refine FnE.enter ⟨_, Tryz.func80, by kernel_rfl, by kernel_rfl⟩ Tryz.func80 rfl rfl ?_
  (with_reducible repeat (first | refine WP.S1 ?_ | refine WP.B1 ?_ | refine WP.R1 ?_))
  refine RL.A1 T_ok rfl ?_
  refine RL.N1 ?_; (with_reducible repeat (first | refine QN.B1 ?_ | refine QN.N1 ?_ | refine WP.S1 ?_ | refine WP.B1 ?_ | refine WP.R1 ?_))
  refine RL.A1 T_ok rfl ?_
  refine RL.load T_ok rfl rfl rfl (hB.cell 1 rfl) rfl ?_
  refine RL.pure T_ok 1 rfl ?_
  by_cases he : e = 0
  rotate_left
  · refine RL.eqv (v' := .bool false) (congrArg _ (by simp [he])) ?_
    refine RL.A1 T_ok rfl ?_
    refine RL.N1 ?_; (with_reducible repeat (first | refine QN.B1 ?_ | refine QN.N1 ?_ | refine WP.S1 ?_ | refine WP.B1 ?_ | refine WP.R1 ?_))
    refine WP.condF rfl ?_
    refine WP.skip ?_; (with_reducible repeat (first | refine QN.B1 ?_ | refine QN.N1 ?_ | refine WP.S1 ?_ | refine WP.B1 ?_ | refine WP.R1 ?_))
    refine RL.A1 T_ok rfl ?_
    refine RL.load T_ok rfl rfl rfl (hB.cell 1 rfl) rfl ?_
    refine RL.pure T_ok 1 rfl ?_
    refine RL.eqv (v' := .bool true) (congrArg _ (by simp [he])) ?_
    refine RL.A1 T_ok rfl ?_
    refine RL.N1 ?_; (with_reducible repeat (first | refine QN.B1 ?_ | refine QN.N1 ?_ | refine WP.S1 ?_ | refine WP.B1 ?_ | refine WP.R1 ?_))
    refine WP.condT rfl ?_
    (with_reducible repeat (first | refine WP.S1 ?_ | refine WP.B1 ?_ | refine WP.R1 ?_))
    refine RL.A1 T_ok rfl ?_
    refine RL.N1 ?_; (with_reducible repeat (first | refine QN.B1 ?_ | refine QN.N1 ?_ | refine WP.S1 ?_ | refine WP.B1 ?_ | refine WP.R1 ?_))
    refine WP.ret ?_; (with_reducible repeat (first | refine QN.tr ?_ | refine QN.br ?_))
    exact QN.ret1 rfl rfl ⟨_, rfl, Ext.refl _ _, .inr (.inr ⟨he, rfl, _, hB, hS⟩)⟩
  subst he
  refine RL.eqv (v' := .bool true) (congrArg _ (by simp)) ?_
  refine RL.A1 T_ok rfl ?_
  refine RL.load T_ok rfl rfl rfl (hB.cell 0 rfl) rfl ?_
  refine RL.A1 T_ok rfl ?_
  refine RL.N1 ?_; (with_reducible repeat (first | refine QN.B1 ?_ | refine QN.N1 ?_ | refine WP.S1 ?_ | refine WP.B1 ?_ | refine WP.R1 ?_))
  refine WP.cond rfl (fun hc => ?_) (fun hc => ?_)
  · have hc : l.length < n := by have := of_decide_eq_true hc; omega
    (with_reducible repeat (first | refine WP.S1 ?_ | refine WP.B1 ?_ | refine WP.R1 ?_))
    refine RL.A1 T_ok rfl ?_
    refine RL.store T_ok hB (i := 1) (v := .int .i64 10) (by simp) rfl rfl rfl rfl rfl rfl ?_
    intro m2 hC
    have hB2 : Blk m2 b 90 [.slice A l.length c, .int .i64 10] := hC.blk
    refine RL.N1 ?_; (with_reducible repeat (first | refine QN.B1 ?_ | refine QN.N1 ?_ | refine WP.S1 ?_ | refine WP.B1 ?_ | refine WP.R1 ?_))
    refine RL.A1 T_ok rfl ?_
    refine RL.load T_ok rfl rfl rfl (hB2.cell 1 rfl) rfl ?_
    refine RL.A1 T_ok rfl ?_
    refine RL.N1 ?_; (with_reducible repeat (first | refine QN.B1 ?_ | refine QN.N1 ?_ | refine WP.S1 ?_ | refine WP.B1 ?_ | refine WP.R1 ?_))
    refine WP.condT rfl ?_
    (with_reducible repeat (first | refine WP.S1 ?_ | refine WP.B1 ?_ | refine WP.R1 ?_))
    refine RL.A1 T_ok rfl ?_
    refine RL.N1 ?_; (with_reducible repeat (first | refine QN.B1 ?_ | refine QN.N1 ?_ | refine WP.S1 ?_ | refine WP.B1 ?_ | refine WP.R1 ?_))
    refine WP.ret ?_; (with_reducible repeat (first | refine QN.tr ?_ | refine QN.br ?_))
    exact QN.ret1 rfl rfl ⟨_, rfl, hC.ext, .inr (.inl ⟨rfl, hc, rfl, _, hB2, Sl.ext hS (hC.ext.mono (by simp [hbM])) (fun _ hk => .inl hk) (by omega)⟩)⟩
  · have hc : n ≤ l.length := by have := of_decide_eq_false hc; omega
    refine WP.skip ?_; (with_reducible repeat (first | refine QN.B1 ?_ | refine QN.N1 ?_ | refine WP.S1 ?_ | refine WP.B1 ?_ | refine WP.R1 ?_))
    refine RL.A1 T_ok rfl ?_
    refine RL.load T_ok rfl rfl rfl (hB.cell 1 rfl) rfl ?_
    refine RL.A1 T_ok rfl ?_
    refine RL.N1 ?_; (with_reducible repeat (first | refine QN.B1 ?_ | refine QN.N1 ?_ | refine WP.S1 ?_ | refine WP.B1 ?_ | refine WP.R1 ?_))
    refine WP.condF rfl ?_
    refine WP.skip ?_; (with_reducible repeat (first | refine QN.B1 ?_ | refine QN.N1 ?_ | refine WP.S1 ?_ | refine WP.B1 ?_ | refine WP.R1 ?_))
    refine RL.A1 T_ok rfl ?_
    refine RL.load T_ok rfl rfl rfl (hB.cell 0 rfl) rfl ?_
    refine RL.A1 T_ok rfl ?_
    refine RL.sliceTo (l := n) T_ok rfl rfl rfl rfl rfl (by omega) rfl ?_
    refine RL.A1 T_ok rfl ?_
    refine RL.N1 ?_; (with_reducible repeat (first | refine QN.B1 ?_ | refine QN.N1 ?_ | refine WP.S1 ?_ | refine WP.B1 ?_ | refine WP.R1 ?_))
    refine RL.A1 T_ok rfl ?_
    refine RL.load T_ok rfl rfl rfl (hB.cell 0 rfl) rfl ?_
    refine RL.A1 T_ok rfl ?_
    refine RL.sliceFrom (l := n) T_ok rfl rfl rfl rfl rfl hc rfl ?_
    refine RL.A1 T_ok rfl ?_
    refine RL.store T_ok hB (i := 0) (by simp) rfl rfl rfl rfl rfl rfl ?_
    intro m1 hC
    have hE := hC.ext
    have h1 := Sl.upto hS (k := c) hc (by omega) (Nat.le_refl c)
    have h2 := Sl.from_ hS hc
    rw [show (u8s l).take (n * 1) = u8s (l.take n) by rw [Nat.mul_one, u8s_take]] at h1
    rw [show (u8s l).drop (n * 1) = u8s (l.drop n) by rw [Nat.mul_one, u8s_drop]] at h2
    have hEM : Ext m M m1 := hE.mono (by simp [hbM])
    refine RL.N1 ?_; (with_reducible repeat (first | refine QN.B1 ?_ | refine QN.N1 ?_ | refine WP.S1 ?_ | refine WP.B1 ?_ | refine WP.R1 ?_))
    refine RL.A1 T_ok rfl ?_
    refine RL.N1 ?_; (with_reducible repeat (first | refine QN.B1 ?_ | refine QN.N1 ?_ | refine WP.S1 ?_ | refine WP.B1 ?_ | refine WP.R1 ?_))
    refine WP.ret ?_; (with_reducible repeat (first | refine QN.tr ?_ | refine QN.br ?_))
    refine QN.ret1 rfl rfl ⟨_, rfl, hE, .inl ⟨rfl, hc, Sl.ext h1 hEM (fun _ hk => .inl hk) (by omega), ⟨_, hC.blk, Sl.ext h2 hEM (fun _ hk => .inl hk) (by omega)⟩⟩⟩
theorem qbyte_c (m : World) (M : List Nat) (b : Nat) (l : List UInt8) (e : Int) (h : QAt m M b l e) (hbM : b ∈ M) :
    FnR Tryz.prog 33 [.pointer (some ⟨b, 0, none⟩)] m (QPost m M b (fun n : UInt8 => .int .u8 n.toNat) (gR 0 e l (rdByte l))) := by
  refine FnE.enter ⟨_, Tryz.func33, by kernel_rfl, by kernel_rfl⟩ Tryz.func33 rfl rfl ?_
  (with_reducible repeat (first | refine WP.S1 ?_ | refine WP.B1 ?_ | refine WP.R1 ?_))
  refine RL.A1 T_ok rfl ?_
  refine RL.N1 ?_; (with_reducible repeat (first | refine QN.B1 ?_ | refine QN.N1 ?_ | refine WP.S1 ?_ | refine WP.B1 ?_ | refine WP.R1 ?_))
  refine RL.A1 T_ok rfl ?_
  refine RL.call (fi := []) (ca := []) rfl rfl rfl rfl (qtake_c m M b l e h hbM 1) ?_
  rintro r m1 ⟨hE, ⟨rfl, hn, hB, hQ⟩ | ⟨rfl, hn, rfl, hQ⟩ | ⟨he, rfl, hQ⟩⟩
  · match l, hn with
    | x :: l2, _ =>
    have hB : Bs m1 M r [x] := hB
    obtain ⟨A, c, rfl, _, _⟩ := hB.shape
    refine ⟨_, rfl, ?_⟩
    refine RL.A1 T_ok rfl ?_
    refine RL.N1 ?_; (with_reducible repeat (first | refine QN.B1 ?_ | refine QN.N1 ?_ | refine WP.S1 ?_ | refine WP.B1 ?_ | refine WP.R1 ?_))
    refine RL.A1 T_ok rfl ?_
    refine RL.N1 ?_; (with_reducible repeat (first | refine QN.B1 ?_ | refine QN.N1 ?_ | refine WP.S1 ?_ | refine WP.B1 ?_ | refine WP.R1 ?_))
    refine WP.condF rfl ?_
    refine WP.skip ?_; (with_reducible repeat (first | refine QN.B1 ?_ | refine QN.N1 ?_ | refine WP.S1 ?_ | refine WP.B1 ?_ | refine WP.R1 ?_))
    refine RL.A1 T_ok rfl ?_
    refine RL.index T_ok hB (k := 0) rfl (by simp) rfl rfl rfl rfl (fun ad _ _ hcell => ⟨_, rfl, ?_⟩)
    have hx := hcell 0 (.int .u8 x.toNat) rfl
    refine RL.load T_ok rfl rfl rfl (by rw [add_add] at hx; exact hx) rfl ?_
    refine RL.A1 T_ok rfl ?_
    refine RL.N1 ?_; (with_reducible repeat (first | refine QN.B1 ?_ | refine QN.N1 ?_ | refine WP.S1 ?_ | refine WP.B1 ?_ | refine WP.R1 ?_))
    refine WP.ret ?_; (with_reducible repeat (first | refine QN.tr ?_ | refine QN.br ?_))
    exact QN.ret1 rfl rfl ⟨_, rfl, rfl, hQ, hE⟩
  · have h0 : l = [] := List.eq_nil_of_length_eq_zero (by omega)
    subst h0
    refine ⟨_, rfl, ?_⟩
    refine RL.A1 T_ok rfl ?_
    refine RL.N1 ?_; (with_reducible repeat (first | refine QN.B1 ?_ | refine QN.N1 ?_ | refine WP.S1 ?_ | refine WP.B1 ?_ | refine WP.R1 ?_))
    refine RL.A1 T_ok rfl ?_
    refine RL.N1 ?_; (with_reducible repeat (first | refine QN.B1 ?_ | refine QN.N1 ?_ | refine WP.S1 ?_ | refine WP.B1 ?_ | refine WP.R1 ?_))
    refine WP.condT rfl ?_
    (with_reducible repeat (first | refine WP.S1 ?_ | refine WP.B1 ?_ | refine WP.R1 ?_))
    refine RL.A1 T_ok rfl ?_
    refine RL.N1 ?_; (with_reducible repeat (first | refine QN.B1 ?_ | refine QN.N1 ?_ | refine WP.S1 ?_ | refine WP.B1 ?_ | refine WP.R1 ?_))
    refine WP.ret ?_; (with_reducible repeat (first | refine QN.tr ?_ | refine QN.br ?_))
    exact QN.ret1 rfl rfl ⟨_, rfl, rfl, hQ, hE⟩
  · refine ⟨_, rfl, ?_⟩
    refine RL.A1 T_ok rfl ?_
    refine RL.N1 ?_; (with_reducible repeat (first | refine QN.B1 ?_ | refine QN.N1 ?_ | refine WP.S1 ?_ | refine WP.B1 ?_ | refine WP.R1 ?_))
    refine RL.A1 T_ok rfl ?_
    refine RL.N1 ?_; (with_reducible repeat (first | refine QN.B1 ?_ | refine QN.N1 ?_ | refine WP.S1 ?_ | refine WP.B1 ?_ | refine WP.R1 ?_))
    refine WP.condT rfl ?_
    (with_reducible repeat (first | refine WP.S1 ?_ | refine WP.B1 ?_ | refine WP.R1 ?_))
    refine RL.A1 T_ok rfl ?_
    refine RL.N1 ?_; (with_reducible repeat (first | refine QN.B1 ?_ | refine QN.N1 ?_ | refine WP.S1 ?_ | refine WP.B1 ?_ | refine WP.R1 ?_))
    refine WP.ret ?_; (with_reducible repeat (first | refine QN.tr ?_ | refine QN.br ?_))
    refine QN.ret1 rfl rfl ⟨_, rfl, ?_⟩
    rw [gR_off he]
    exact ⟨rfl, hQ, hE⟩
end Go.Proofs.YtgpgladbdoimdaaGreatDoor
end
section
namespace Go.SeqP
inductive Fo where
  | nil
  | cons (i : Nat) (l r n : Fo)
def insAt {α : Type} (p : Nat) (x : α) (l : List α) : List α := l.take p ++ x :: l.drop p
theorem _root_.List.not_mem_cons {α : Type} {x y : α} {l : List α} : x ∉ y :: l ↔ x ≠ y ∧ x ∉ l := by simp
theorem insAt_zero {α : Type} (x : α) (l : List α) : insAt 0 x l = x :: l := rfl
theorem insAt_append {α : Type} (p : Nat) (x : α) (a b : List α) : insAt (a.length + p) x (a ++ b) = a ++ insAt p x b := by
  simp [insAt, List.take_append, List.drop_append, List.take_of_length_le, List.drop_eq_nil_of_le]
theorem insAt_left {α : Type} (p : Nat) (x : α) (a b : List α) (h : p ≤ a.length) : insAt p x (a ++ b) = insAt p x a ++ b := by
  simp [insAt, List.take_append_of_le_length h, List.drop_append_of_le_length h]
theorem insAt_length {α : Type} (p : Nat) (x : α) (l : List α) : (insAt p x l).length = l.length + 1 := by
  simp only [insAt, List.length_append, List.length_cons, List.length_take, List.length_drop]; omega
theorem insAt_perm {α : Type} (p : Nat) (x : α) (l : List α) : (insAt p x l).Perm (x :: l) := by
  unfold insAt
  refine List.perm_middle.trans (List.Perm.cons x ?_)
  rw [List.take_append_drop]
theorem mem_insAt {α : Type} {p : Nat} {x y : α} {l : List α} : y ∈ insAt p x l ↔ y = x ∨ y ∈ l := by rw [(insAt_perm p x l).mem_iff, List.mem_cons]
theorem insAt_map {α β : Type} (f : α → β) (p : Nat) (x : α) (l : List α) : (insAt p x l).map f = insAt p (f x) (l.map f) := by simp [insAt, List.map_take, List.map_drop]
namespace Fo
def flat : Fo → List Nat
  | nil => []
  | cons i l r n => l.flat ++ i :: (r.flat ++ n.flat)
def roots : Fo → List Nat
  | nil => []
  | cons i _ _ n => i :: n.roots
def sz (f : Fo) : Nat := f.flat.length
def pre : Nat → Fo → Nat
  | 0, _ => 0
  | _ + 1, nil => 0
  | k + 1, cons _ l r n => l.sz + (1 + r.sz) + pre k n
def put (x : Nat) : Nat → Fo → Fo
  | 0, f => cons x nil nil f
  | _ + 1, nil => cons x nil nil nil
  | k + 1, cons i l r n => cons i l r (put x k n)
def atL (p : Nat) (g : Fo → Fo) : Fo → Fo
  | nil => nil
  | cons i l r n => if i = p then cons i (g l) r n else cons i (atL p g l) (atL p g r) (atL p g n)
def atR (p : Nat) (g : Fo → Fo) : Fo → Fo
  | nil => nil
  | cons i l r n => if i = p then cons i l (g r) n else cons i (atR p g l) (atR p g r) (atR p g n)
theorem roots_put (x : Nat) : ∀ (k : Nat) (f : Fo), k ≤ f.roots.length → (put x k f).roots = insAt k x f.roots
  | 0, f, _ => rfl
  | k + 1, nil, h => by simp [roots] at h
  | k + 1, cons i l r n, h => by
    have := roots_put x k n (by simpa [roots] using h)
    simp [put, roots, this, insAt]
theorem flat_put (x : Nat) : ∀ (k : Nat) (f : Fo), k ≤ f.roots.length → (put x k f).flat = insAt (pre k f) x f.flat
  | 0, f, _ => by simp [put, flat, pre, insAt]
  | k + 1, nil, h => by simp [roots] at h
  | k + 1, cons i l r n, h => by
    have ih := flat_put x k n (by simpa [roots] using h)
    have e : l.flat ++ i :: (r.flat ++ n.flat) = (l.flat ++ (i :: r.flat)) ++ n.flat := by simp
    simp only [put, flat, pre, ih]
    rw [e, show l.sz + (1 + r.sz) + pre k n = (l.flat ++ (i :: r.flat)).length + pre k n by simp [sz]; omega, insAt_append]
    simp
theorem roots_sub : ∀ (f : Fo), ∀ x ∈ f.roots, x ∈ f.flat
  | nil, x, h => by simp [roots] at h
  | cons i l r n, x, h => by
    simp only [roots, List.mem_cons] at h
    rcases h with rfl | h
    · simp [flat]
    · have := roots_sub n x h
      simp [flat, this]
theorem pre_le : ∀ (k : Nat) (f : Fo), pre k f ≤ f.sz
  | 0, f => Nat.zero_le _
  | k + 1, nil => Nat.zero_le _
  | k + 1, cons i l r n => by
    have := pre_le k n
    simp only [pre, sz, flat, List.length_append, List.length_cons] at this ⊢
    omega
theorem pre_full : ∀ (f : Fo), pre f.roots.length f = f.sz
  | nil => rfl
  | cons i l r n => by
    have := pre_full n
    simp only [roots, List.length_cons, pre, this, sz, flat, List.length_append]
    omega
def nth : Nat → Fo → Option (Nat × Fo × Fo)
  | _, nil => none
  | 0, cons i l r _ => some (i, l, r)
  | k + 1, cons _ _ _ n => nth k n
theorem nth_root : ∀ (k : Nat) (f : Fo) (i : Nat), f.roots[k]? = some i → ∃ l r, nth k f = some (i, l, r)
  | k, nil, i, h => by simp [roots] at h
  | 0, cons j l r n, i, h => by simp [roots] at h; subst h; exact ⟨l, r, rfl⟩
  | k + 1, cons j l r n, i, h => nth_root k n i (by simpa [roots] using h)
theorem pre_succ : ∀ (k : Nat) (f : Fo) (i : Nat) (l r : Fo), nth k f = some (i, l, r) → pre (k + 1) f = pre k f + (l.sz + (1 + r.sz))
  | k, nil, i, l, r, h => by simp [nth] at h
  | 0, cons j a b n, i, l, r, h => by
    simp only [nth, Option.some.injEq, Prod.mk.injEq] at h
    obtain ⟨rfl, rfl, rfl⟩ := h
    simp [pre]
  | k + 1, cons j a b n, i, l, r, h => by
    have := pre_succ k n i l r h
    simp only [pre] at this ⊢
    omega
theorem atL_none {p : Nat} {g : Fo → Fo} : ∀ (f : Fo), p ∉ f.flat → atL p g f = f
  | nil, _ => rfl
  | cons i l r n, h => by
    simp only [flat, List.mem_append, List.mem_cons, not_or] at h
    simp only [atL, if_neg (Ne.symm h.2.1), atL_none l h.1, atL_none r h.2.2.1, atL_none n h.2.2.2]
theorem atR_none {p : Nat} {g : Fo → Fo} : ∀ (f : Fo), p ∉ f.flat → atR p g f = f
  | nil, _ => rfl
  | cons i l r n, h => by
    simp only [flat, List.mem_append, List.mem_cons, not_or] at h
    simp only [atR, if_neg (Ne.symm h.2.1), atR_none l h.1, atR_none r h.2.2.1, atR_none n h.2.2.2]
theorem roots_atL {p : Nat} {g : Fo → Fo} : ∀ (f : Fo), (atL p g f).roots = f.roots
  | nil => rfl
  | cons i l r n => by
    unfold atL
    split
    · rfl
    · simp [roots, roots_atL n]
theorem roots_atR {p : Nat} {g : Fo → Fo} : ∀ (f : Fo), (atR p g f).roots = f.roots
  | nil => rfl
  | cons i l r n => by
    unfold atR
    split
    · rfl
    · simp [roots, roots_atR n]
def At : Fo → Option Nat → Bool → Nat → Option Nat → Bool → Fo → Fo → Prop
  | nil, _, _, _, _, _, _, _ => False
  | cons i l r n, pa, sd, p, q, s, a, b => (p = i ∧ q = pa ∧ s = sd ∧ a = l ∧ b = r) ∨ At l (some i) true p q s a b ∨ At r (some i) false p q s a b ∨ At n pa sd p q s a b
theorem At.mem {p : Nat} {q : Option Nat} {s : Bool} {a b : Fo} : ∀ {f : Fo} {pa : Option Nat} {sd : Bool}, At f pa sd p q s a b → p ∈ f.flat ∧ (∀ x ∈ a.flat, x ∈ f.flat) ∧ (∀ x ∈ b.flat, x ∈ f.flat)
  | nil, _, _, h => h.elim
  | cons i l r n, pa, sd, h => by
    rcases h with ⟨rfl, _, _, rfl, rfl⟩ | h | h | h
    · exact ⟨by simp [flat], fun x hx => by simp [flat, hx], fun x hx => by simp [flat, hx]⟩
    all_goals
      obtain ⟨h1, h2, h3⟩ := At.mem h
      exact ⟨by simp [flat, h1], fun x hx => by simp [flat, h2 x hx], fun x hx => by simp [flat, h3 x hx]⟩
theorem At.of_mem {p : Nat} : ∀ {f : Fo} (pa : Option Nat) (sd : Bool), p ∈ f.flat → ∃ q s a b, At f pa sd p q s a b
  | nil, _, _, h => by simp [flat] at h
  | cons i l r n, pa, sd, h => by
    simp only [flat, List.mem_append, List.mem_cons] at h
    rcases h with h | rfl | h | h
    · obtain ⟨q, s, a, b, h⟩ := At.of_mem (some i) true h
      exact ⟨q, s, a, b, .inr (.inl h)⟩
    · exact ⟨pa, sd, l, r, .inl ⟨rfl, rfl, rfl, rfl, rfl⟩⟩
    · obtain ⟨q, s, a, b, h⟩ := At.of_mem (some i) false h
      exact ⟨q, s, a, b, .inr (.inr (.inl h))⟩
    · obtain ⟨q, s, a, b, h⟩ := At.of_mem pa sd h
      exact ⟨q, s, a, b, .inr (.inr (.inr h))⟩
theorem nd_cons {i : Nat} {l r n : Fo} (h : (cons i l r n).flat.Nodup) :
    l.flat.Nodup ∧ r.flat.Nodup ∧ n.flat.Nodup ∧ i ∉ l.flat ∧ i ∉ r.flat ∧ i ∉ n.flat ∧ (∀ x ∈ l.flat, x ∉ r.flat ∧ x ∉ n.flat) ∧ (∀ x ∈ r.flat, x ∉ n.flat) := by
  obtain ⟨h1, h2, h3⟩ := List.nodup_append.1 h
  obtain ⟨h4, h5⟩ := List.nodup_cons.1 h2
  obtain ⟨h6, h7, h8⟩ := List.nodup_append.1 h5
  simp only [List.mem_append, not_or] at h4
  exact ⟨h1, h6, h7, fun hi => h3 i hi i (zS ..) rfl, h4.1, h4.2,
    fun x hx => ⟨fun hr => h3 x hx x (by simp [hr]) rfl, fun hn => h3 x hx x (by simp [hn]) rfl⟩, fun x hx hn => h8 x hx x hn rfl⟩
theorem At.split {p : Nat} {q : Option Nat} {s : Bool} {a b : Fo} : ∀ {f : Fo} {pa : Option Nat} {sd : Bool}, At f pa sd p q s a b → f.flat.Nodup →
    ∃ u v, f.flat = u ++ (a.flat ++ p :: (b.flat ++ v)) ∧ ∀ g : Fo → Fo, (atL p g f).flat = u ++ ((g a).flat ++ p :: (b.flat ++ v)) ∧ (atR p g f).flat = u ++ (a.flat ++ p :: ((g b).flat ++ v))
  | nil, _, _, h, _ => h.elim
  | cons i l r n, pa, sd, h, nd => by
    obtain ⟨n1, n2, n3, i1, i2, i3, d1, d2⟩ := nd_cons nd
    rcases h with ⟨rfl, _, _, rfl, rfl⟩ | h | h | h
    · exact ⟨[], n.flat, by simp [flat], fun g => ⟨by simp [atL, flat], by simp [atR, flat]⟩⟩
    · have hm := h.mem.1
      obtain ⟨u, v, e, hg⟩ := At.split h n1
      have hne : ¬ i = p := fun hh => i1 (hh ▸ hm)
      refine ⟨u, v ++ i :: (r.flat ++ n.flat), by simp [flat, e], fun g => ⟨?_, ?_⟩⟩
      · simp [atL, hne, flat, (hg g).1, atL_none r (d1 p hm).1, atL_none n (d1 p hm).2]
      · simp [atR, hne, flat, (hg g).2, atR_none r (d1 p hm).1, atR_none n (d1 p hm).2]
    · have hm := h.mem.1
      obtain ⟨u, v, e, hg⟩ := At.split h n2
      have hne : ¬ i = p := fun hh => i2 (hh ▸ hm)
      have hl : p ∉ l.flat := fun hh => (d1 p hh).1 hm
      refine ⟨l.flat ++ i :: u, v ++ n.flat, by simp [flat, e], fun g => ⟨?_, ?_⟩⟩
      · simp [atL, hne, flat, (hg g).1, atL_none l hl, atL_none n (d2 p hm)]
      · simp [atR, hne, flat, (hg g).2, atR_none l hl, atR_none n (d2 p hm)]
    · have hm := h.mem.1
      obtain ⟨u, v, e, hg⟩ := At.split h n3
      have hne : ¬ i = p := fun hh => i3 (hh ▸ hm)
      have hl : p ∉ l.flat := fun hh => (d1 p hh).2 hm
      have hr : p ∉ r.flat := fun hh => d2 p hh hm
      refine ⟨l.flat ++ i :: (r.flat ++ u), v, by simp [flat, e], fun g => ⟨?_, ?_⟩⟩
      · simp [atL, hne, flat, (hg g).1, atL_none l hl, atL_none r hr]
      · simp [atR, hne, flat, (hg g).2, atR_none l hl, atR_none r hr]
theorem At.nd {p : Nat} {q : Option Nat} {s : Bool} {a b : Fo} {f : Fo} {pa : Option Nat} {sd : Bool} (h : At f pa sd p q s a b) (nd : f.flat.Nodup) : a.flat.Nodup ∧ b.flat.Nodup ∧ p ∉ a.flat ∧ p ∉ b.flat := by
  obtain ⟨u, v, e, _⟩ := h.split nd
  rw [e] at nd
  have h1 := (List.nodup_append.1 nd).2.1
  obtain ⟨h2, h3, h4⟩ := List.nodup_append.1 h1
  obtain ⟨h5, h6⟩ := List.nodup_cons.1 h3
  simp only [List.mem_append, not_or] at h5
  exact ⟨h2, (List.nodup_append.1 h6).1, fun hh => h4 p hh p (zS ..) rfl, h5.1⟩
theorem At.uniq {p : Nat} {q q' : Option Nat} {s s' : Bool} {a b a' b' : Fo} : ∀ {f : Fo} {pa : Option Nat} {sd : Bool}, At f pa sd p q s a b → At f pa sd p q' s' a' b' → f.flat.Nodup → q = q' ∧ s = s' ∧ a = a' ∧ b = b'
  | nil, _, _, h, _, _ => h.elim
  | cons i l r n, pa, sd, h, h', nd => by
    obtain ⟨n1, n2, n3, i1, i2, i3, d1, d2⟩ := nd_cons nd
    rcases h with ⟨rfl, rfl, rfl, rfl, rfl⟩ | h | h | h
    · rcases h' with ⟨_, rfl, rfl, rfl, rfl⟩ | h' | h' | h'
      · exact ⟨rfl, rfl, rfl, rfl⟩
      · exact absurd h'.mem.1 i1
      · exact absurd h'.mem.1 i2
      · exact absurd h'.mem.1 i3
    · have hm := h.mem.1
      rcases h' with ⟨rfl, _⟩ | h' | h' | h'
      · exact absurd hm i1
      · exact At.uniq h h' n1
      · exact absurd h'.mem.1 (d1 p hm).1
      · exact absurd h'.mem.1 (d1 p hm).2
    · have hm := h.mem.1
      rcases h' with ⟨rfl, _⟩ | h' | h' | h'
      · exact absurd hm i2
      · exact absurd hm (d1 p h'.mem.1).1
      · exact At.uniq h h' n2
      · exact absurd h'.mem.1 (d2 p hm)
    · have hm := h.mem.1
      rcases h' with ⟨rfl, _⟩ | h' | h' | h'
      · exact absurd hm i3
      · exact absurd hm (d1 p h'.mem.1).2
      · exact absurd hm (d2 p h'.mem.1)
      · exact At.uniq h h' n3
theorem At.of_put {x p : Nat} {q : Option Nat} {s : Bool} {a b : Fo} : ∀ {k : Nat} {f : Fo} {pa : Option Nat} {sd : Bool}, At (put x k f) pa sd p q s a b →
    (p = x ∧ q = pa ∧ s = sd ∧ a = nil ∧ b = nil) ∨ At f pa sd p q s a b
  | 0, f, pa, sd, h => by
    rcases h with h | h | h | h
    · exact .inl h
    · exact h.elim
    · exact h.elim
    · exact .inr h
  | k + 1, nil, pa, sd, h => by
    rcases h with h | h | h | h
    · exact .inl h
    all_goals exact h.elim
  | k + 1, cons i l r n, pa, sd, h => by
    rcases h with h | h | h | h
    · exact .inr (.inl h)
    · exact .inr (.inr (.inl h))
    · exact .inr (.inr (.inr (.inl h)))
    · rcases At.of_put h with h | h
      · exact .inl h
      · exact .inr (.inr (.inr (.inr h)))
theorem At.of_atR {x t p : Nat} {q : Option Nat} {s : Bool} {a b : Fo} {k : Nat} : ∀ {f : Fo} {pa : Option Nat} {sd : Bool}, At (atR t (put x k) f) pa sd p q s a b → f.flat.Nodup → x ∉ f.flat → t ∈ f.flat →
    (p = x ∧ q = some t ∧ s = false ∧ a = nil ∧ b = nil) ∨ (p = t ∧ ∃ c, At f pa sd p q s a c ∧ b = put x k c) ∨ (p ≠ t ∧ p ≠ x ∧ ∃ c d, At f pa sd p q s c d ∧ a = atR t (put x k) c ∧ b = atR t (put x k) d)
  | nil, _, _, h, _, _, _ => h.elim
  | cons i l r n, pa, sd, h, nd, hx, ht => by
    obtain ⟨n1, n2, n3, i1, i2, i3, d1, d2⟩ := nd_cons nd
    have keep : ∀ {g : Fo} {ga : Option Nat} {gs : Bool}, At g ga gs p q s a b → t ∉ g.flat → x ∉ g.flat → p ≠ t ∧ p ≠ x ∧ ∃ c d, At g ga gs p q s c d ∧ a = atR t (put x k) c ∧ b = atR t (put x k) d := fun hg hn hx' => by
      obtain ⟨m1, m2, m3⟩ := hg.mem
      exact ⟨fun hh => hn (hh ▸ m1), fun hh => hx' (hh ▸ m1), a, b, hg, (atR_none a (fun hh => hn (m2 t hh))).symm, (atR_none b (fun hh => hn (m3 t hh))).symm⟩
    simp only [flat, List.mem_append, List.mem_cons, not_or] at hx
    unfold atR at h
    split at h
    · rename_i hi
      subst hi
      rcases h with ⟨rfl, rfl, rfl, rfl, rfl⟩ | h | h | h
      · exact .inr (.inl ⟨rfl, r, .inl ⟨rfl, rfl, rfl, rfl, rfl⟩, rfl⟩)
      · obtain ⟨k1, k2, c, d, k3, k4⟩ := keep h i1 hx.1
        exact .inr (.inr ⟨k1, k2, c, d, .inr (.inl k3), k4⟩)
      · rcases At.of_put h with h | h
        · exact .inl h
        · obtain ⟨k1, k2, c, d, k3, k4⟩ := keep h i2 hx.2.2.1
          exact .inr (.inr ⟨k1, k2, c, d, .inr (.inr (.inl k3)), k4⟩)
      · obtain ⟨k1, k2, c, d, k3, k4⟩ := keep h i3 hx.2.2.2
        exact .inr (.inr ⟨k1, k2, c, d, .inr (.inr (.inr k3)), k4⟩)
    · rename_i hi
      have step : ∀ {g : Fo} {ga : Option Nat} {gs : Bool}, (∀ q' s' c d, At g ga gs p q' s' c d → At (cons i l r n) pa sd p q' s' c d) →
          ((p = x ∧ q = some t ∧ s = false ∧ a = nil ∧ b = nil) ∨ (p = t ∧ ∃ c, At g ga gs p q s a c ∧ b = put x k c) ∨ (p ≠ t ∧ p ≠ x ∧ ∃ c d, At g ga gs p q s c d ∧ a = atR t (put x k) c ∧ b = atR t (put x k) d)) →
          ((p = x ∧ q = some t ∧ s = false ∧ a = nil ∧ b = nil) ∨ (p = t ∧ ∃ c, At (cons i l r n) pa sd p q s a c ∧ b = put x k c) ∨ (p ≠ t ∧ p ≠ x ∧ ∃ c d, At (cons i l r n) pa sd p q s c d ∧ a = atR t (put x k) c ∧ b = atR t (put x k) d)) := fun hg h => by
        rcases h with h | ⟨h1, c, h2, h3⟩ | ⟨h1, h2, c, d, h3, h4⟩
        · exact .inl h
        · exact .inr (.inl ⟨h1, c, hg _ _ _ _ h2, h3⟩)
        · exact .inr (.inr ⟨h1, h2, c, d, hg _ _ _ _ h3, h4⟩)
      have sub : ∀ {g : Fo} {ga : Option Nat} {gs : Bool}, At (atR t (put x k) g) ga gs p q s a b → x ∉ g.flat → (t ∈ g.flat → (p = x ∧ q = some t ∧ s = false ∧ a = nil ∧ b = nil) ∨ (p = t ∧ ∃ c, At g ga gs p q s a c ∧ b = put x k c) ∨ (p ≠ t ∧ p ≠ x ∧ ∃ c d, At g ga gs p q s c d ∧ a = atR t (put x k) c ∧ b = atR t (put x k) d)) →
          ((p = x ∧ q = some t ∧ s = false ∧ a = nil ∧ b = nil) ∨ (p = t ∧ ∃ c, At g ga gs p q s a c ∧ b = put x k c) ∨ (p ≠ t ∧ p ≠ x ∧ ∃ c d, At g ga gs p q s c d ∧ a = atR t (put x k) c ∧ b = atR t (put x k) d)) := fun {g} _ _ hg hxg hin => by
        by_cases htg : t ∈ g.flat
        · exact hin htg
        · rw [atR_none g htg] at hg
          exact .inr (.inr (keep hg htg hxg))
      rcases h with ⟨rfl, rfl, rfl, rfl, rfl⟩ | h | h | h
      · exact .inr (.inr ⟨hi, fun hh => hx.2.1 hh.symm, l, r, .inl ⟨rfl, rfl, rfl, rfl, rfl⟩, rfl, rfl⟩)
      · exact step (fun _ _ _ _ h => .inr (.inl h)) (sub h hx.1 (fun ht => At.of_atR h n1 hx.1 ht))
      · exact step (fun _ _ _ _ h => .inr (.inr (.inl h))) (sub h hx.2.2.1 (fun ht => At.of_atR h n2 hx.2.2.1 ht))
      · exact step (fun _ _ _ _ h => .inr (.inr (.inr h))) (sub h hx.2.2.2 (fun ht => At.of_atR h n3 hx.2.2.2 ht))
theorem At.of_atL {x t p : Nat} {q : Option Nat} {s : Bool} {a b : Fo} {k : Nat} : ∀ {f : Fo} {pa : Option Nat} {sd : Bool}, At (atL t (put x k) f) pa sd p q s a b → f.flat.Nodup → x ∉ f.flat → t ∈ f.flat →
    (p = x ∧ q = some t ∧ s = true ∧ a = nil ∧ b = nil) ∨ (p = t ∧ ∃ c, At f pa sd p q s c b ∧ a = put x k c) ∨ (p ≠ t ∧ p ≠ x ∧ ∃ c d, At f pa sd p q s c d ∧ a = atL t (put x k) c ∧ b = atL t (put x k) d)
  | nil, _, _, h, _, _, _ => h.elim
  | cons i l r n, pa, sd, h, nd, hx, ht => by
    obtain ⟨n1, n2, n3, i1, i2, i3, d1, d2⟩ := nd_cons nd
    have keep : ∀ {g : Fo} {ga : Option Nat} {gs : Bool}, At g ga gs p q s a b → t ∉ g.flat → x ∉ g.flat → p ≠ t ∧ p ≠ x ∧ ∃ c d, At g ga gs p q s c d ∧ a = atL t (put x k) c ∧ b = atL t (put x k) d := fun hg hn hx' => by
      obtain ⟨m1, m2, m3⟩ := hg.mem
      exact ⟨fun hh => hn (hh ▸ m1), fun hh => hx' (hh ▸ m1), a, b, hg, (atL_none a (fun hh => hn (m2 t hh))).symm, (atL_none b (fun hh => hn (m3 t hh))).symm⟩
    simp only [flat, List.mem_append, List.mem_cons, not_or] at hx
    unfold atL at h
    split at h
    · rename_i hi
      subst hi
      rcases h with ⟨rfl, rfl, rfl, rfl, rfl⟩ | h | h | h
      · exact .inr (.inl ⟨rfl, l, .inl ⟨rfl, rfl, rfl, rfl, rfl⟩, rfl⟩)
      · rcases At.of_put h with h | h
        · exact .inl h
        · obtain ⟨k1, k2, c, d, k3, k4⟩ := keep h i1 hx.1
          exact .inr (.inr ⟨k1, k2, c, d, .inr (.inl k3), k4⟩)
      · obtain ⟨k1, k2, c, d, k3, k4⟩ := keep h i2 hx.2.2.1
        exact .inr (.inr ⟨k1, k2, c, d, .inr (.inr (.inl k3)), k4⟩)
      · obtain ⟨k1, k2, c, d, k3, k4⟩ := keep h i3 hx.2.2.2
        exact .inr (.inr ⟨k1, k2, c, d, .inr (.inr (.inr k3)), k4⟩)
    · rename_i hi
      have step : ∀ {g : Fo} {ga : Option Nat} {gs : Bool}, (∀ q' s' c d, At g ga gs p q' s' c d → At (cons i l r n) pa sd p q' s' c d) →
          ((p = x ∧ q = some t ∧ s = true ∧ a = nil ∧ b = nil) ∨ (p = t ∧ ∃ c, At g ga gs p q s c b ∧ a = put x k c) ∨ (p ≠ t ∧ p ≠ x ∧ ∃ c d, At g ga gs p q s c d ∧ a = atL t (put x k) c ∧ b = atL t (put x k) d)) →
          ((p = x ∧ q = some t ∧ s = true ∧ a = nil ∧ b = nil) ∨ (p = t ∧ ∃ c, At (cons i l r n) pa sd p q s c b ∧ a = put x k c) ∨ (p ≠ t ∧ p ≠ x ∧ ∃ c d, At (cons i l r n) pa sd p q s c d ∧ a = atL t (put x k) c ∧ b = atL t (put x k) d)) := fun hg h => by
        rcases h with h | ⟨h1, c, h2, h3⟩ | ⟨h1, h2, c, d, h3, h4⟩
        · exact .inl h
        · exact .inr (.inl ⟨h1, c, hg _ _ _ _ h2, h3⟩)
        · exact .inr (.inr ⟨h1, h2, c, d, hg _ _ _ _ h3, h4⟩)
      have sub : ∀ {g : Fo} {ga : Option Nat} {gs : Bool}, At (atL t (put x k) g) ga gs p q s a b → x ∉ g.flat → (t ∈ g.flat → (p = x ∧ q = some t ∧ s = true ∧ a = nil ∧ b = nil) ∨ (p = t ∧ ∃ c, At g ga gs p q s c b ∧ a = put x k c) ∨ (p ≠ t ∧ p ≠ x ∧ ∃ c d, At g ga gs p q s c d ∧ a = atL t (put x k) c ∧ b = atL t (put x k) d)) →
          ((p = x ∧ q = some t ∧ s = true ∧ a = nil ∧ b = nil) ∨ (p = t ∧ ∃ c, At g ga gs p q s c b ∧ a = put x k c) ∨ (p ≠ t ∧ p ≠ x ∧ ∃ c d, At g ga gs p q s c d ∧ a = atL t (put x k) c ∧ b = atL t (put x k) d)) := fun {g} _ _ hg hxg hin => by
        by_cases htg : t ∈ g.flat
        · exact hin htg
        · rw [atL_none g htg] at hg
          exact .inr (.inr (keep hg htg hxg))
      rcases h with ⟨rfl, rfl, rfl, rfl, rfl⟩ | h | h | h
      · exact .inr (.inr ⟨hi, fun hh => hx.2.1 hh.symm, l, r, .inl ⟨rfl, rfl, rfl, rfl, rfl⟩, rfl, rfl⟩)
      · exact step (fun _ _ _ _ h => .inr (.inl h)) (sub h hx.1 (fun ht => At.of_atL h n1 hx.1 ht))
      · exact step (fun _ _ _ _ h => .inr (.inr (.inl h))) (sub h hx.2.2.1 (fun ht => At.of_atL h n2 hx.2.2.1 ht))
      · exact step (fun _ _ _ _ h => .inr (.inr (.inr h))) (sub h hx.2.2.2 (fun ht => At.of_atL h n3 hx.2.2.2 ht))
def path (up : List Nat) : Fo → Nat → List Nat
  | nil, _ => []
  | cons i l r n, p => if i = p then p :: up else if p ∈ l.flat then path (i :: up) l p else if p ∈ r.flat then path (i :: up) r p else path up n p
theorem At.path {p : Nat} {q : Option Nat} {s : Bool} {a b : Fo} : ∀ {f : Fo} {up : List Nat} {sd : Bool}, At f up.head? sd p q s a b → f.flat.Nodup → (∀ k ∈ up, k ∉ f.flat) →
    ∃ t, Fo.path up f p = p :: t ∧ q = t.head? ∧ (t = up ∨ ∃ q', q = some q' ∧ Fo.path up f q' = t ∧ q' ∈ f.flat)
  | nil, _, _, h, _, _ => h.elim
  | cons i l r n, up, sd, h, nd, hu => by
    obtain ⟨n1, n2, n3, i1, i2, i3, d1, d2⟩ := nd_cons nd
    have hi0 : Fo.path up (cons i l r n) i = i :: up := by simp [Fo.path]
    rcases h with ⟨rfl, rfl, _, _, _⟩ | h | h | h
    · exact ⟨up, hi0, rfl, .inl rfl⟩
    · have hm := h.mem.1
      obtain ⟨t, e, hq, ht⟩ := At.path (f := l) (up := i :: up) h n1 (fun k hk hl => by
        rcases List.mem_cons.1 hk with rfl | hk
        · exact i1 hl
        · exact hu k hk (by simp [flat, hl]))
      have hne : ¬ i = p := fun hh => i1 (hh ▸ hm)
      refine ⟨t, by simp [Fo.path, hne, hm, e], hq, .inr ?_⟩
      rcases ht with rfl | ⟨q', rfl, h1, h2⟩
      · exact ⟨i, hq, hi0, by simp [flat]⟩
      · have hne' : ¬ i = q' := fun hh => i1 (hh ▸ h2)
        exact ⟨q', rfl, by simp [Fo.path, hne', h2, h1], by simp [flat, h2]⟩
    · have hm := h.mem.1
      have hl : p ∉ l.flat := fun hh => (d1 p hh).1 hm
      obtain ⟨t, e, hq, ht⟩ := At.path (f := r) (up := i :: up) h n2 (fun k hk hl => by
        rcases List.mem_cons.1 hk with rfl | hk
        · exact i2 hl
        · exact hu k hk (by simp [flat, hl]))
      have hne : ¬ i = p := fun hh => i2 (hh ▸ hm)
      refine ⟨t, by simp [Fo.path, hne, hl, hm, e], hq, .inr ?_⟩
      rcases ht with rfl | ⟨q', rfl, h1, h2⟩
      · exact ⟨i, hq, hi0, by simp [flat]⟩
      · have hne' : ¬ i = q' := fun hh => i2 (hh ▸ h2)
        have hl' : q' ∉ l.flat := fun hh => (d1 q' hh).1 h2
        exact ⟨q', rfl, by simp [Fo.path, hne', hl', h2, h1], by simp [flat, h2]⟩
    · have hm := h.mem.1
      have hl : p ∉ l.flat := fun hh => (d1 p hh).2 hm
      have hr : p ∉ r.flat := fun hh => d2 p hh hm
      obtain ⟨t, e, hq, ht⟩ := At.path (f := n) (up := up) h n3 (fun k hk hl => hu k hk (by simp [flat, hl]))
      have hne : ¬ i = p := fun hh => i3 (hh ▸ hm)
      refine ⟨t, by simp [Fo.path, hne, hl, hr, e], hq, ?_⟩
      rcases ht with rfl | ⟨q', rfl, h1, h2⟩
      · exact .inl rfl
      · have hne' : ¬ i = q' := fun hh => i3 (hh ▸ h2)
        have hl' : q' ∉ l.flat := fun hh => (d1 q' hh).2 h2
        have hr' : q' ∉ r.flat := fun hh => d2 q' hh h2
        exact .inr ⟨q', rfl, by simp [Fo.path, hne', hl', hr', h1], by simp [flat, h2]⟩
theorem At.onPath {x p : Nat} {q : Option Nat} {s : Bool} {a b : Fo} : ∀ {f : Fo} {up : List Nat} {pa : Option Nat} {sd : Bool}, At f pa sd x q s a b → f.flat.Nodup → x ∉ up → p ∈ f.flat →
    (x ∈ Fo.path up f p ↔ x = p ∨ p ∈ a.flat ∨ p ∈ b.flat)
  | nil, _, _, _, h, _, _, _ => h.elim
  | cons i l r n, up, pa, sd, h, nd, hu, hp => by
    obtain ⟨n1, n2, n3, i1, i2, i3, d1, d2⟩ := nd_cons nd
    have off : ∀ (g : Fo) (up : List Nat), x ∉ up → x ∉ g.flat → x ∉ Fo.path up g p := by
      intro g
      induction g with
      | nil => intro up _ _; simp [Fo.path]
      | cons j c d e ih1 ih2 ih3 =>
        intro up h1 h2
        simp only [flat, List.mem_append, List.mem_cons, not_or] at h2
        unfold Fo.path
        split
        · rename_i hj; subst hj; simp [h1, h2.2.1]
        · split
          · exact ih1 _ (by simp [h1, h2.2.1]) h2.1
          · split
            · exact ih2 _ (by simp [h1, h2.2.1]) h2.2.2.1
            · exact ih3 _ h1 h2.2.2.2
    have on : ∀ (g : Fo) (up : List Nat), x ∈ up → p ∈ g.flat → x ∈ Fo.path up g p := by
      intro g
      induction g with
      | nil => intro up _ h; simp [flat] at h
      | cons j c d e ih1 ih2 ih3 =>
        intro up h1 h2
        simp only [flat, List.mem_append, List.mem_cons] at h2
        unfold Fo.path
        split
        · simp [h1]
        · rename_i hj
          split
          · rename_i hc; exact ih1 _ (by simp [h1]) hc
          · rename_i hc
            split
            · rename_i hd; exact ih2 _ (by simp [h1]) hd
            · rename_i hd
              refine ih3 _ h1 ?_
              rcases h2 with h2 | h2 | h2 | h2
              · exact absurd h2 hc
              · exact absurd h2.symm hj
              · exact absurd h2 hd
              · exact h2
    simp only [flat, List.mem_append, List.mem_cons] at hp
    rcases h with ⟨rfl, _, _, rfl, rfl⟩ | h | h | h
    · -- the node itself
      unfold Fo.path
      split
      · rename_i hh; subst hh; simp
      · rename_i hne
        split
        · rename_i hl; simp [hl, on a (x :: up) (by simp) hl]
        · rename_i hl
          split
          · rename_i hr; simp [hr, on b (x :: up) (by simp) hr]
          · rename_i hr
            have := off n up hu i3
            simp [hl, hr, hne, this]
    · obtain ⟨m1, m2, m3⟩ := h.mem
      have hxi : ¬ i = x := fun hh => i1 (hh ▸ m1)
      unfold Fo.path
      split
      · rename_i hh; subst hh
        have hxi' : x ≠ i := Ne.symm hxi
        have ha : i ∉ a.flat := fun hh => i1 (m2 i hh)
        have hb : i ∉ b.flat := fun hh => i1 (m3 i hh)
        simp [hu, hxi', ha, hb]
      · split
        · rename_i hl; exact At.onPath h n1 (List.not_mem_cons.2 ⟨Ne.symm hxi, hu⟩) hl
        · rename_i hl
          have hR : ¬ (x = p ∨ p ∈ a.flat ∨ p ∈ b.flat) := by
            rintro (rfl | h1 | h1)
            · exact hl m1
            · exact hl (m2 p h1)
            · exact hl (m3 p h1)
          refine iff_of_false ?_ hR
          split
          · exact off r (i :: up) (List.not_mem_cons.2 ⟨Ne.symm hxi, hu⟩) (d1 x m1).1
          · exact off n up hu (d1 x m1).2
    · obtain ⟨m1, m2, m3⟩ := h.mem
      have hxi : ¬ i = x := fun hh => i2 (hh ▸ m1)
      have hxl : x ∉ l.flat := fun hh => (d1 x hh).1 m1
      unfold Fo.path
      split
      · rename_i hh; subst hh
        have hxi' : x ≠ i := Ne.symm hxi
        have ha : i ∉ a.flat := fun hh => i2 (m2 i hh)
        have hb : i ∉ b.flat := fun hh => i2 (m3 i hh)
        simp [hu, hxi', ha, hb]
      · split
        · rename_i hl
          refine iff_of_false (off l (i :: up) (List.not_mem_cons.2 ⟨Ne.symm hxi, hu⟩) hxl) ?_
          rintro (rfl | h1 | h1)
          · exact hxl hl
          · exact (d1 p hl).1 (m2 p h1)
          · exact (d1 p hl).1 (m3 p h1)
        · rename_i hl
          split
          · rename_i hr; exact At.onPath h n2 (List.not_mem_cons.2 ⟨Ne.symm hxi, hu⟩) hr
          · rename_i hr
            refine iff_of_false (off n up hu (d2 x m1)) ?_
            rintro (rfl | h1 | h1)
            · exact hr m1
            · exact hr (m2 p h1)
            · exact hr (m3 p h1)
    · obtain ⟨m1, m2, m3⟩ := h.mem
      have hxi : ¬ i = x := fun hh => i3 (hh ▸ m1)
      have hxl : x ∉ l.flat := fun hh => (d1 x hh).2 m1
      have hxr : x ∉ r.flat := fun hh => d2 x hh m1
      unfold Fo.path
      split
      · rename_i hh; subst hh
        have hxi' : x ≠ i := Ne.symm hxi
        have ha : i ∉ a.flat := fun hh => i3 (m2 i hh)
        have hb : i ∉ b.flat := fun hh => i3 (m3 i hh)
        simp [hu, hxi', ha, hb]
      · rename_i hip
        split
        · rename_i hl
          refine iff_of_false (off l (i :: up) (List.not_mem_cons.2 ⟨Ne.symm hxi, hu⟩) hxl) ?_
          rintro (rfl | h1 | h1)
          · exact hxl hl
          · exact (d1 p hl).2 (m2 p h1)
          · exact (d1 p hl).2 (m3 p h1)
        · rename_i hl
          split
          · rename_i hr
            refine iff_of_false (off r (i :: up) (List.not_mem_cons.2 ⟨Ne.symm hxi, hu⟩) hxr) ?_
            rintro (rfl | h1 | h1)
            · exact hxr hr
            · exact d2 p hr (m2 p h1)
            · exact d2 p hr (m3 p h1)
          · rename_i hr
            refine At.onPath h n3 hu ?_
            rcases hp with h1 | h1 | h1 | h1
            · exact absurd h1 hl
            · exact absurd h1.symm hip
            · exact absurd h1 hr
            · exact h1
end Fo
end Go.SeqP
end
section
namespace Go.Proofs.YtgpgladbdoimdaaGreatDoor
open Go.Ids Go.SeqP
deriving instance DecidableEq for Idn
instance : Inhabited Idn := ⟨⟨0, 0⟩⟩
structure Un where
  id : Idn
  l : Idn
  r : Idn
  deriving Inhabited, DecidableEq
theorem idn_eq {x y : Idn} : x = y ↔ x.c = y.c ∧ x.k = y.k := by
  cases x; cases y; simp
theorem Idn.lt_irrefl (x : Idn) : x.lt x = false := by simp [Idn.lt]
theorem Idn.lt_trans {x y z : Idn} (h1 : x.lt y = true) (h2 : y.lt z = true) : x.lt z = true := by
  simp only [Idn.lt, Bool.or_eq_true, Bool.and_eq_true, decide_eq_true_eq] at *
  omega
theorem Idn.lt_tri {x y : Idn} (h : x ≠ y) : x.lt y = true ∨ y.lt x = true := by
  simp only [Idn.lt, Bool.or_eq_true, Bool.and_eq_true, decide_eq_true_eq]
  have : ¬ (x.c = y.c ∧ x.k = y.k) := fun hh => h (idn_eq.2 hh)
  omega
theorem Idn.right_ne {x : Idn} (h : x.right = true) : x ≠ ⟨0, 0⟩ := by
  rintro rfl; simp [Idn.right, num] at h
section
open Fo
theorem path_put {x p : Nat} : ∀ {k : Nat} {f : Fo} {up : List Nat}, p ≠ x → p ∈ f.flat → Fo.path up (Fo.put x k f) p = Fo.path up f p
  | 0, f, up, hp, _ => by simp [Fo.put, Fo.path, Ne.symm hp, Fo.flat]
  | k + 1, .nil, up, hp, h => by simp [Fo.flat] at h
  | k + 1, .cons i l r n, up, hp, h => by
    simp only [Fo.flat, List.mem_append, List.mem_cons] at h
    simp only [Fo.put, Fo.path]
    split
    · rfl
    · rename_i hi
      split
      · rfl
      · rename_i hl
        split
        · rfl
        · rename_i hr
          refine path_put hp ?_
          rcases h with h | h | h | h
          · exact absurd h hl
          · exact absurd h.symm hi
          · exact absurd h hr
          · exact h
theorem mem_put {x y : Nat} (hy : y ≠ x) : ∀ {k : Nat} {f : Fo}, y ∈ (Fo.put x k f).flat ↔ y ∈ f.flat
  | 0, f => by simp [Fo.put, Fo.flat, hy]
  | k + 1, .nil => by simp [Fo.put, Fo.flat, hy]
  | k + 1, .cons i l r n => by simp [Fo.put, Fo.flat, mem_put hy (k := k) (f := n)]
theorem mem_at {x t k y : Nat} (hy : y ≠ x) : ∀ {f : Fo}, (y ∈ (atR t (Fo.put x k) f).flat ↔ y ∈ f.flat) ∧ (y ∈ (atL t (Fo.put x k) f).flat ↔ y ∈ f.flat)
  | .nil => by simp [atR, atL]
  | .cons i l r n => by
    have h1 := mem_at (t := t) (k := k) hy (f := l)
    have h2 := mem_at (t := t) (k := k) hy (f := r)
    have h3 := mem_at (t := t) (k := k) hy (f := n)
    unfold atR atL
    split
    · simp [Fo.flat, mem_put hy]
    · simp [Fo.flat, h1.1, h2.1, h3.1, h1.2, h2.2, h3.2]
theorem path_atR {x t k p : Nat} (hp : p ≠ x) : ∀ {f : Fo} {up : List Nat}, p ∈ f.flat → Fo.path up (atR t (Fo.put x k) f) p = Fo.path up f p
  | .nil, _, h => by simp [Fo.flat] at h
  | .cons i l r n, up, h => by
    simp only [Fo.flat, List.mem_append, List.mem_cons] at h
    have m1 := (mem_at (t := t) (k := k) hp (f := l)).1
    have m2 := (mem_at (t := t) (k := k) hp (f := r)).1
    have hq : p ∈ (Fo.put x k r).flat ↔ p ∈ r.flat := mem_put hp
    unfold atR
    split
    · simp only [Fo.path, hq]
      split
      · rfl
      · split
        · rfl
        · split
          · rename_i hr; exact path_put hp hr
          · rfl
    · simp only [Fo.path, m1, m2]
      split
      · rfl
      · rename_i hi
        split
        · rename_i hl; exact path_atR hp hl
        · rename_i hl
          split
          · rename_i hr; exact path_atR hp hr
          · rename_i hr
            refine path_atR hp ?_
            rcases h with h | h | h | h
            · exact absurd h hl
            · exact absurd h.symm hi
            · exact absurd h hr
            · exact h
theorem path_atL {x t k p : Nat} (hp : p ≠ x) : ∀ {f : Fo} {up : List Nat}, p ∈ f.flat → Fo.path up (atL t (Fo.put x k) f) p = Fo.path up f p
  | .nil, _, h => by simp [Fo.flat] at h
  | .cons i l r n, up, h => by
    simp only [Fo.flat, List.mem_append, List.mem_cons] at h
    have m1 := (mem_at (t := t) (k := k) hp (f := l)).2
    have m2 := (mem_at (t := t) (k := k) hp (f := r)).2
    have hq : p ∈ (Fo.put x k l).flat ↔ p ∈ l.flat := mem_put hp
    unfold atL
    split
    · simp only [Fo.path, hq]
      split
      · rfl
      · split
        · rename_i hr; exact path_put hp hr
        · rfl
    · simp only [Fo.path, m1, m2]
      split
      · rfl
      · rename_i hi
        split
        · rename_i hl; exact path_atL hp hl
        · rename_i hl
          split
          · rename_i hr; exact path_atL hp hr
          · rename_i hr
            refine path_atL hp ?_
            rcases h with h | h | h | h
            · exact absurd h hl
            · exact absurd h.symm hi
            · exact absurd h hr
            · exact h
end
section
open Fo
def subs : Fo → Nat → Fo × Fo
  | .nil, _ => (.nil, .nil)
  | .cons i l r n, p => if i = p then (l, r) else if p ∈ l.flat then subs l p else if p ∈ r.flat then subs r p else subs n p
theorem At.subs {p : Nat} {q : Option Nat} {s : Bool} {a b : Fo} : ∀ {f : Fo} {pa : Option Nat} {sd : Bool}, At f pa sd p q s a b → f.flat.Nodup → Proofs.YtgpgladbdoimdaaGreatDoor.subs f p = (a, b)
  | .nil, _, _, h, _ => h.elim
  | .cons i l r n, pa, sd, h, nd => by
    obtain ⟨n1, n2, n3, i1, i2, i3, d1, d2⟩ := nd_cons nd
    rcases h with ⟨rfl, _, _, rfl, rfl⟩ | h | h | h
    · simp [Proofs.YtgpgladbdoimdaaGreatDoor.subs]
    · have hm := h.mem.1
      have hi : ¬ i = p := fun hh => i1 (hh ▸ hm)
      simp only [Proofs.YtgpgladbdoimdaaGreatDoor.subs, if_neg hi, if_pos hm]
      exact At.subs h n1
    · have hm := h.mem.1
      have hi : ¬ i = p := fun hh => i2 (hh ▸ hm)
      have hl : p ∉ l.flat := fun hh => (d1 p hh).1 hm
      simp only [Proofs.YtgpgladbdoimdaaGreatDoor.subs, if_neg hi, if_neg hl, if_pos hm]
      exact At.subs h n2
    · have hm := h.mem.1
      have hi : ¬ i = p := fun hh => i3 (hh ▸ hm)
      have hl : p ∉ l.flat := fun hh => (d1 p hh).2 hm
      have hr : p ∉ r.flat := fun hh => d2 p hh hm
      simp only [Proofs.YtgpgladbdoimdaaGreatDoor.subs, if_neg hi, if_neg hl, if_neg hr]
      exact At.subs h n3
structure Grown (F F' : Fo) (x : Nat) (pa : Option Nat) (sd : Bool) (k : Nat) (up : List Nat) (pl : Nat) : Prop where
  flat : F'.flat = insAt pl x F.flat
  le : pl ≤ F.flat.length
  roots : F'.roots = if pa = none then insAt k x F.roots else F.roots
  new : At F' none false x pa sd .nil .nil
  keep : ∀ p ∈ F.flat, Fo.path [] F' p = Fo.path [] F p
  old : ∀ {i p s a' b'}, At F' none false i p s a' b' → (i = x ∧ p = pa ∧ a' = .nil ∧ b' = .nil) ∨ (i ≠ x ∧ ∃ a b, At F none false i p s a b ∧
    a'.roots = (if pa = some i ∧ sd = true then insAt k x a.roots else a.roots) ∧ b'.roots = (if pa = some i ∧ sd = false then insAt k x b.roots else b.roots) ∧ a'.sz + b'.sz = a.sz + b.sz + (if i ∈ up then 1 else 0))
theorem sz_put (x : Nat) : ∀ (k : Nat) (f : Fo), (put x k f).sz = f.sz + 1
  | 0, f => by simp [put, sz, Fo.flat]
  | k + 1, .nil => by simp [put, sz, Fo.flat]
  | k + 1, .cons i l r n => by
    have := sz_put x k n
    simp only [put, sz, Fo.flat, List.length_append, List.length_cons] at this ⊢
    omega
theorem sz_at {x t k : Nat} : ∀ {f : Fo}, f.flat.Nodup → (atR t (put x k) f).sz = f.sz + (if t ∈ f.flat then 1 else 0) ∧ (atL t (put x k) f).sz = f.sz + (if t ∈ f.flat then 1 else 0)
  | .nil, _ => by simp [atR, atL, sz, Fo.flat]
  | .cons i l r n, nd => by
    obtain ⟨n1, n2, n3, i1, i2, i3, d1, d2⟩ := nd_cons nd
    obtain ⟨a1, a2⟩ := sz_at (x := x) (t := t) (k := k) n1
    obtain ⟨b1, b2⟩ := sz_at (x := x) (t := t) (k := k) n2
    obtain ⟨c1, c2⟩ := sz_at (x := x) (t := t) (k := k) n3
    have p1 := sz_put x k l
    have p2 := sz_put x k r
    unfold atR atL
    simp only [sz] at *
    by_cases hi : i = t
    · subst hi
      simp only [if_true, Fo.flat, List.length_append, List.length_cons, List.mem_append, List.mem_cons, true_or, or_true]
      omega
    · have hi' : ¬ t = i := fun hh => hi hh.symm
      simp only [if_neg hi, Fo.flat, List.length_append, List.length_cons, List.mem_append, List.mem_cons, hi', false_or]
      by_cases h1 : t ∈ l.flat
      · have h2 := (d1 t h1).1
        have h3 := (d1 t h1).2
        simp only [h1, h2, h3, if_true, if_false, true_or] at *
        omega
      · by_cases h2 : t ∈ r.flat
        · have h3 := d2 t h2
          simp only [h1, h2, h3, if_true, if_false, true_or, false_or] at *
          omega
        · simp only [h1, h2, if_false, false_or] at *
          by_cases h3 : t ∈ n.flat <;> simp only [h3, if_true, if_false] at * <;> omega
theorem At.disj {p : Nat} {q : Option Nat} {s : Bool} {a b f : Fo} {pa : Option Nat} {sd : Bool} (h : At f pa sd p q s a b) (nd : f.flat.Nodup) : ∀ t ∈ a.flat, t ∉ b.flat := by
  obtain ⟨u, v, e, _⟩ := h.split nd
  rw [e] at nd
  have h1 := (List.nodup_append.1 (List.nodup_append.1 nd).2.1).2.2
  exact fun t ht hb => h1 t ht t (by simp [hb]) rfl
theorem At.put_new (x : Nat) : ∀ (k : Nat) (f : Fo) (pa : Option Nat) (sd : Bool), At (put x k f) pa sd x pa sd .nil .nil
  | 0, _, _, _ => .inl ⟨rfl, rfl, rfl, rfl, rfl⟩
  | _ + 1, .nil, _, _ => .inl ⟨rfl, rfl, rfl, rfl, rfl⟩
  | k + 1, .cons _ _ _ n, pa, sd => .inr (.inr (.inr (At.put_new x k n pa sd)))
theorem At.at_new {x t k : Nat} : ∀ {f : Fo} (pa : Option Nat) (sd : Bool), t ∈ f.flat → f.flat.Nodup → At (atR t (put x k) f) pa sd x (some t) false .nil .nil ∧ At (atL t (put x k) f) pa sd x (some t) true .nil .nil
  | .nil, _, _, h, _ => by simp [Fo.flat] at h
  | .cons i l r n, pa, sd, h, nd => by
    obtain ⟨n1, n2, n3, i1, i2, i3, d1, d2⟩ := nd_cons nd
    unfold atR atL
    by_cases hi : i = t
    · subst hi
      rw [if_pos rfl, if_pos rfl]
      exact ⟨.inr (.inr (.inl (At.put_new ..))), .inr (.inl (At.put_new ..))⟩
    · rw [if_neg hi, if_neg hi]
      simp only [Fo.flat, List.mem_append, List.mem_cons] at h
      rcases h with h | h | h | h
      · obtain ⟨h1, h2⟩ := At.at_new (x := x) (k := k) (some i) true h n1
        exact ⟨.inr (.inl h1), .inr (.inl h2)⟩
      · exact absurd h.symm hi
      · obtain ⟨h1, h2⟩ := At.at_new (x := x) (k := k) (some i) false h n2
        exact ⟨.inr (.inr (.inl h1)), .inr (.inr (.inl h2))⟩
      · obtain ⟨h1, h2⟩ := At.at_new (x := x) (k := k) pa sd h n3
        exact ⟨.inr (.inr (.inr h1)), .inr (.inr (.inr h2))⟩
theorem grown_root {F : Fo} {x k : Nat} (hx : x ∉ F.flat) (hk : k ≤ F.roots.length) : Grown F (put x k F) x none false k [] (Fo.pre k F) where
  flat := flat_put x k F hk
  le := Fo.pre_le k F
  roots := by rw [if_pos rfl]; exact roots_put x k F hk
  new := At.put_new x k F none false
  keep := fun p hp => path_put (fun hh => hx (hh ▸ hp)) hp
  old := fun {i p s a' b'} h => by
    rcases At.of_put h with ⟨rfl, rfl, _, rfl, rfl⟩ | h
    · exact .inl ⟨rfl, rfl, rfl, rfl⟩
    · exact .inr ⟨fun hh => hx (hh ▸ h.mem.1), a', b', h, by simp, by simp, by simp⟩
theorem grown_left {F a b : Fo} {x k t pl : Nat} {q : Option Nat} {s : Bool} (nd : F.flat.Nodup) (hx : x ∉ F.flat) (h : At F none false t q s a b) (hk : k ≤ a.roots.length) (hp : F.flat[pl]? = some t) : Grown F (atL t (put x k) F) x (some t) true k (Fo.path [] F t) (pl - (a.sz - Fo.pre k a)) := by
  obtain ⟨u, v, e, hg⟩ := h.split nd
  have hle := Fo.pre_le k a
  have hpl : pl = u.length + a.sz := by
    rw [e] at hp nd
    have : (u ++ (a.flat ++ t :: (b.flat ++ v)))[u.length + a.sz]? = some t := by
      rw [List.getElem?_append_right (by omega), List.getElem?_append_right (by simp [Fo.sz])]
      simp [Fo.sz]
    exact (List.getElem?_inj (List.getElem?_eq_some_iff.1 hp).1 nd).1 (hp.trans this.symm)
  have hr : pl - (a.sz - Fo.pre k a) = u.length + Fo.pre k a := by omega
  rw [hr]
  refine ⟨?_, ?_, ?_, (At.at_new none false h.mem.1 nd).2, fun p hp => path_atL (p := p) (x := x) (fun hh => hx (hh ▸ hp)) hp, fun {i p s' a' b'} h' => ?_⟩
  · rw [(hg _).1, e, flat_put x k a hk, insAt_append, insAt_left _ _ _ _ hle]
  · rw [e, List.length_append, List.length_append]; simp only [Fo.sz] at hle; omega
  · simp [roots_atL]
  · rcases At.of_atL h' nd hx h.mem.1 with ⟨rfl, rfl, _, rfl, rfl⟩ | ⟨rfl, c, h1, rfl⟩ | ⟨h1, h2, c, d, h3, rfl, rfl⟩
    · exact .inl ⟨rfl, rfl, rfl, rfl⟩
    · obtain ⟨_, _, rfl, rfl⟩ := h1.uniq h nd
      refine .inr ⟨fun hh => hx (hh ▸ h.mem.1), _, _, h1, by simp [roots_put x k _ hk], by simp, ?_⟩
      have := (h.onPath (up := []) nd (by simp) h.mem.1).2 (.inl rfl)
      rw [if_pos this, sz_put]; omega
    · refine .inr ⟨h2, c, d, h3, by simp [roots_atL, Ne.symm h1], by simp [roots_atL], ?_⟩
      have h4 := h3.onPath (up := []) nd (by simp) h.mem.1
      obtain ⟨nc, ndd, _, _⟩ := h3.nd nd
      rw [(sz_at nc).2, (sz_at ndd).2]
      by_cases hc : t ∈ c.flat
      · rw [if_pos hc, if_neg (At.disj h3 nd t hc), if_pos (h4.2 (.inr (.inl hc)))]; omega
      · by_cases hd : t ∈ d.flat
        · rw [if_neg hc, if_pos hd, if_pos (h4.2 (.inr (.inr hd)))]; omega
        · rw [if_neg hc, if_neg hd, if_neg (fun hh => by rcases h4.1 hh with hh | hh | hh <;> simp_all)]; omega
theorem grown_right {F a b : Fo} {x k t pl : Nat} {q : Option Nat} {s : Bool} (nd : F.flat.Nodup) (hx : x ∉ F.flat) (h : At F none false t q s a b) (hk : k ≤ b.roots.length) (hp : F.flat[pl]? = some t) : Grown F (atR t (put x k) F) x (some t) false k (Fo.path [] F t) (pl + 1 + Fo.pre k b) := by
  obtain ⟨u, v, e, hg⟩ := h.split nd
  have hle := Fo.pre_le k b
  have hpl : pl = u.length + a.sz := by
    rw [e] at hp nd
    have : (u ++ (a.flat ++ t :: (b.flat ++ v)))[u.length + a.sz]? = some t := by
      rw [List.getElem?_append_right (by omega), List.getElem?_append_right (by simp [Fo.sz])]
      simp [Fo.sz]
    exact (List.getElem?_inj (List.getElem?_eq_some_iff.1 hp).1 nd).1 (hp.trans this.symm)
  refine ⟨?_, ?_, ?_, (At.at_new none false h.mem.1 nd).1, fun p hp => path_atR (p := p) (x := x) (fun hh => hx (hh ▸ hp)) hp, fun {i p s' a' b'} h' => ?_⟩
  · have e2 : u ++ (a.flat ++ t :: (b.flat ++ v)) = (u ++ (a.flat ++ [t])) ++ (b.flat ++ v) := by simp
    have e3 : u ++ (a.flat ++ t :: ((put x k b).flat ++ v)) = (u ++ (a.flat ++ [t])) ++ ((put x k b).flat ++ v) := by simp
    have hl : (u ++ (a.flat ++ [t])).length = pl + 1 := by simp [hpl, Fo.sz]; omega
    rw [(hg _).2, e, e3, e2, flat_put x k b hk, ← hl, insAt_append, insAt_left _ _ _ _ hle]
  · rw [e, List.length_append, List.length_append, List.length_cons, List.length_append]; simp only [Fo.sz] at hle hpl; omega
  · simp [roots_atR]
  · rcases At.of_atR h' nd hx h.mem.1 with ⟨rfl, rfl, _, rfl, rfl⟩ | ⟨rfl, c, h1, rfl⟩ | ⟨h1, h2, c, d, h3, rfl, rfl⟩
    · exact .inl ⟨rfl, rfl, rfl, rfl⟩
    · obtain ⟨_, _, rfl, rfl⟩ := h1.uniq h nd
      refine .inr ⟨fun hh => hx (hh ▸ h.mem.1), _, _, h1, by simp, by simp [roots_put x k _ hk], ?_⟩
      have := (h.onPath (up := []) nd (by simp) h.mem.1).2 (.inl rfl)
      rw [if_pos this, sz_put]; omega
    · refine .inr ⟨h2, c, d, h3, by simp [roots_atR], by simp [roots_atR, Ne.symm h1], ?_⟩
      have h4 := h3.onPath (up := []) nd (by simp) h.mem.1
      obtain ⟨nc, ndd, _, _⟩ := h3.nd nd
      rw [(sz_at nc).1, (sz_at ndd).1]
      by_cases hc : t ∈ c.flat
      · rw [if_pos hc, if_neg (At.disj h3 nd t hc), if_pos (h4.2 (.inr (.inl hc)))]; omega
      · by_cases hd : t ∈ d.flat
        · rw [if_neg hc, if_pos hd, if_pos (h4.2 (.inr (.inr hd)))]; omega
        · rw [if_neg hc, if_neg hd, if_neg (fun hh => by rcases h4.1 hh with hh | hh | hh <;> simp_all)]; omega
end
structure Us where
  us : List Un
  F : Fo
namespace Us
def u (q : Us) (i : Nat) : Un := q.us.getD i default
def units (q : Us) : List Un := q.F.flat.map q.u
def idx (q : Us) (id : Idn) : Option Nat := q.us.findIdx? fun u => decide (u.id = id)
def place (q : Us) (i : Nat) : Nat := q.F.flat.idxOf i
def find (q : Us) (id : Idn) : Int := match q.idx id with
  | none => -1
  | some i => q.place i
def far (q : Us) (x : Un) : Int := if x.r = ⟨0, 0⟩ then q.us.length else q.find x.r
def ahead (q : Us) (x y : Un) : Bool := if q.far x = q.far y then x.id.lt y.id else decide (q.far x > q.far y)
def there (q : Us) (id : Idn) : Bool := decide (id = ⟨0, 0⟩) || (q.idx id).isSome
def may (q : Us) (x : Un) : Bool := x.id.right && (q.idx x.id).isNone && q.there x.l && q.there x.r && (decide (x.l = ⟨0, 0⟩) || decide (x.r = ⟨0, 0⟩) || decide (q.find x.l < q.find x.r))
def kL (q : Us) (l : List Nat) (id : Idn) : Nat := (l.takeWhile fun i => (q.u i).id.lt id).length
def kR (q : Us) (l : List Nat) (x : Un) : Nat := (l.takeWhile fun i => q.ahead (q.u i) x).length
def lefty (q : Us) (x : Un) : Option Nat := match q.idx x.r with
  | none => none
  | some r => match q.idx x.l with
    | none => some r
    | some l => if l ∈ (Fo.path [] q.F r).tail then some r else none
def put (q : Us) (x : Un) : Us := ⟨q.us ++ [x], match q.lefty x with
  | some r => Fo.atL r (Fo.put q.us.length (q.kL (subs q.F r).1.roots x.id)) q.F
  | none => match q.idx x.l with
    | some l => Fo.atR l (Fo.put q.us.length (q.kR (subs q.F l).2.roots x)) q.F
    | none => Fo.put q.us.length (q.kR q.F.roots x) q.F⟩
def pl (q : Us) (x : Un) : Nat := match q.lefty x with
  | some r => q.place r - ((subs q.F r).1.sz - Fo.pre (q.kL (subs q.F r).1.roots x.id) (subs q.F r).1)
  | none => match q.idx x.l with
    | some l => q.place l + 1 + Fo.pre (q.kR (subs q.F l).2.roots x) (subs q.F l).2
    | none => Fo.pre (q.kR q.F.roots x) q.F
def nx (x : Un) (n : Nat) : Un := if n = 0 then x else ⟨⟨x.id.c, x.id.k + n⟩, ⟨x.id.c, x.id.k + n - 1⟩, x.r⟩
def puts (q : Us) (x : Un) : Nat → Us
  | 0 => q
  | n + 1 => (q.puts x n).put (nx x n)
def runs (q : Us) (x : Un) (n : Nat) : Bool := decide (1 ≤ n) && decide (x.id.k + n ≤ 9007199254740992) && (List.range n).all (fun i => (q.idx ⟨x.id.c, x.id.k + i⟩).isNone) && q.may x
def run (q : Us) (x : Un) (n : Nat) : Us := if q.runs x n then q.puts x n else q
structure Ok (q : Us) : Prop where
  nd : q.F.flat.Nodup
  mem : ∀ i, i ∈ q.F.flat ↔ i < q.us.length
  ids : (q.us.map (·.id)).Nodup
  right : ∀ u ∈ q.us, u.id.right = true
  lef : ∀ i p s a b, Fo.At q.F none false i p s a b → (a.roots.map fun k => (q.u k).id).Pairwise fun x y => x.lt y = true
variable {q : Us} {x : Un}
theorem idx_some {id : Idn} {i : Nat} (h : q.idx id = some i) : i < q.us.length ∧ (q.u i).id = id := by
  obtain ⟨h1, h2, _⟩ := List.findIdx?_eq_some_iff_getElem.1 h
  refine ⟨h1, ?_⟩
  simp only [Us.u, List.getD_eq_getElem?_getD, List.getElem?_eq_getElem h1, Option.getD_some]
  simpa using h2
theorem u_get {i : Nat} (h : i < q.us.length) : q.us[i]? = some (q.u i) := by simp [Us.u, List.getD_eq_getElem?_getD, List.getElem?_eq_getElem h]
theorem u_mem {i : Nat} (h : i < q.us.length) : q.u i ∈ q.us := List.mem_of_getElem? (u_get h)
theorem Ok.idx_of (h : q.Ok) {i : Nat} (hi : i < q.us.length) : q.idx (q.u i).id = some i := by
  have hu : q.u i = q.us[i] := by simp [Us.u, List.getD_eq_getElem?_getD, List.getElem?_eq_getElem hi]
  refine List.findIdx?_eq_some_iff_getElem.2 ⟨hi, by simp [hu], fun j hj => ?_⟩
  have := List.pairwise_iff_getElem.1 h.ids j i (by simp; omega) (by simpa using hi) hj
  simpa [hu] using this
theorem idx_none {id : Idn} : q.idx id = none ↔ id ∉ q.us.map (·.id) := by
  unfold Us.idx
  rw [List.findIdx?_eq_none_iff]
  simp only [decide_eq_false_iff_not, List.mem_map, not_exists, not_and]
theorem Ok.none_id (h : q.Ok) : q.idx ⟨0, 0⟩ = none := idx_none.2 fun hh => by
  obtain ⟨u, hu, e⟩ := List.mem_map.1 hh
  exact Idn.right_ne (h.right u hu) e
theorem Ok.flen (h : q.Ok) : q.F.flat.length = q.us.length := by
  have h1 : q.F.flat.Perm (List.range q.us.length) := (List.perm_ext_iff_of_nodup h.nd List.nodup_range).2 fun i => by rw [h.mem, List.mem_range]
  rw [h1.length_eq, List.length_range]
theorem Ok.ulen (h : q.Ok) : q.units.length = q.us.length := by rw [Us.units, List.length_map, h.flen]
theorem Ok.place_get (h : q.Ok) {i : Nat} (hi : i < q.us.length) : q.F.flat[q.place i]? = some i := by
  have hm := (h.mem i).2 hi
  have hlt := List.idxOf_lt_length_of_mem hm
  rw [Us.place, List.getElem?_eq_getElem hlt, List.getElem_idxOf]
theorem Ok.place_lt (h : q.Ok) {i : Nat} (hi : i < q.us.length) : q.place i < q.us.length := by
  have := (List.getElem?_eq_some_iff.1 (h.place_get hi)).1
  rwa [h.flen] at this
theorem takeWhile_le {α : Type} (p : α → Bool) (l : List α) : (l.takeWhile p).length ≤ l.length := (List.takeWhile_sublist p).length_le
theorem Ok.grown (h : q.Ok) (x : Un) : ∃ pa sd k up, Grown q.F (q.put x).F q.us.length pa sd k up (q.pl x) ∧ (pa = none → up = []) ∧ (∀ t, pa = some t → t ∈ q.F.flat ∧ up = Fo.path [] q.F t) ∧
    (∀ r, q.lefty x = some r → pa = some r ∧ sd = true ∧ k = q.kL (subs q.F r).1.roots x.id ∧ up = Fo.path [] q.F r) ∧
    (q.lefty x = none → sd = false ∧ pa = q.idx x.l ∧ (∀ l, q.idx x.l = some l → k = q.kR (subs q.F l).2.roots x ∧ up = Fo.path [] q.F l) ∧ (q.idx x.l = none → k = q.kR q.F.roots x ∧ up = [])) := by
  have hx : q.us.length ∉ q.F.flat := fun hh => by have := (h.mem _).1 hh; omega
  unfold Us.put Us.pl
  cases hl : q.lefty x with
  | some r =>
    have hr : r < q.us.length := by
      unfold Us.lefty at hl
      split at hl
      · cases hl
      · rename_i r' h1
        have := (idx_some h1).1
        split at hl
        · cases hl; exact this
        · split at hl
          · cases hl; exact this
          · cases hl
    obtain ⟨p, s, a, b, hA⟩ := Fo.At.of_mem none false ((h.mem r).2 hr)
    have hs := At.subs hA h.nd
    refine ⟨some r, true, _, _, ?_, fun e => (by cases e), fun t e => (by cases e; exact ⟨hA.mem.1, rfl⟩), fun r' e => by cases e; exact ⟨rfl, rfl, rfl, rfl⟩, fun e => by cases e⟩
    have := grown_left (x := q.us.length) (k := q.kL a.roots x.id) (pl := q.place r) h.nd hx hA (by simpa [kL] using takeWhile_le _ (a.roots)) (h.place_get hr)
    simpa only [hs] using this
  | none =>
    cases hi : q.idx x.l with
    | some l =>
      have hr := (idx_some hi).1
      obtain ⟨p, s, a, b, hA⟩ := Fo.At.of_mem none false ((h.mem l).2 hr)
      have hs := At.subs hA h.nd
      refine ⟨some l, false, _, _, ?_, fun e => (by cases e), fun t e => (by cases e; exact ⟨hA.mem.1, rfl⟩), fun r' e => (by cases e), fun _ => ⟨rfl, rfl, fun l' e => (by cases e; exact ⟨rfl, rfl⟩), fun e => (by cases e)⟩⟩
      have := grown_right (x := q.us.length) (k := q.kR b.roots x) (pl := q.place l) h.nd hx hA (takeWhile_le _ _) (h.place_get hr)
      simpa only [hs] using this
    | none =>
      refine ⟨none, false, _, _, ?_, fun _ => rfl, fun t e => (by cases e), fun r' e => (by cases e), fun _ => ⟨rfl, rfl, fun l' e => (by cases e), fun _ => ⟨rfl, rfl⟩⟩⟩
      exact grown_root (k := q.kR q.F.roots x) hx (takeWhile_le _ _)
theorem put_len (q : Us) (x : Un) : (q.put x).us.length = q.us.length + 1 := by simp [Us.put]
theorem put_u {i : Nat} (h : i < q.us.length) : (q.put x).u i = q.u i := by simp [Us.u, Us.put, List.getD_eq_getElem?_getD, List.getElem?_append_left h]
theorem put_u_new : (q.put x).u q.us.length = x := by simp [Us.u, Us.put, List.getD_eq_getElem?_getD]
theorem put_idx (h : q.idx x.id = none) (id : Idn) : (q.put x).idx id = if x.id = id then some q.us.length else q.idx id := by
  unfold Us.idx at *
  simp only [Us.put, List.findIdx?_append, List.findIdx?_singleton]
  by_cases hid : x.id = id
  · subst hid
    simp [h]
  · simp [hid]
theorem takeWhile_congr {α : Type} {p p' : α → Bool} : ∀ {l : List α}, (∀ y ∈ l, p y = p' y) → l.takeWhile p = l.takeWhile p'
  | [], _ => rfl
  | a :: l, h => by
    have h1 := h a (zS ..)
    have h2 := takeWhile_congr (l := l) fun y hy => h y (zO _ hy)
    simp only [List.takeWhile_cons, h1, h2]
theorem sorted_ins {l : List Nat} {f : Nat → Idn} {x : Nat} (hs : (l.map f).Pairwise fun a b => a.lt b = true) (hx : ∀ y ∈ l, f y ≠ f x) : ((insAt (l.takeWhile fun i => (f i).lt (f x)).length x l).map f).Pairwise fun a b => a.lt b = true := by
  induction l with
  | nil => simp [insAt]
  | cons a l ih =>
    obtain ⟨h1, h2⟩ := List.pairwise_cons.1 hs
    by_cases h : (f a).lt (f x) = true
    · simp only [List.takeWhile_cons, h, if_true, List.length_cons]
      have : insAt ((l.takeWhile fun i => (f i).lt (f x)).length + 1) x (a :: l) = a :: insAt (l.takeWhile fun i => (f i).lt (f x)).length x l := rfl
      rw [this, List.map_cons]
      refine List.pairwise_cons.2 ⟨fun y hy => ?_, ih h2 fun y hy => hx y (zO _ hy)⟩
      obtain ⟨z, hz, rfl⟩ := List.mem_map.1 hy
      rcases mem_insAt.1 hz with rfl | hz
      · exact h
      · exact h1 _ (List.mem_map.2 ⟨z, hz, rfl⟩)
    · simp only [List.takeWhile_cons, if_neg h, List.length_nil, insAt_zero, List.map_cons]
      have h0 : (f x).lt (f a) = true := (Idn.lt_tri (hx a (zS ..))).resolve_left h
      refine List.pairwise_cons.2 ⟨fun y hy => ?_, hs⟩
      rcases List.mem_cons.1 hy with rfl | hy
      · exact h0
      · exact Idn.lt_trans h0 (h1 y hy)
theorem Ok.put (h : q.Ok) (hr : x.id.right = true) (hn : q.idx x.id = none) : (q.put x).Ok := by
  obtain ⟨pa, sd, k, up, g, _, _, g1, g2⟩ := h.grown x
  have hx : q.us.length ∉ q.F.flat := fun hh => by have := (h.mem _).1 hh; omega
  refine ⟨?_, fun i => ?_, ?_, fun u hu => ?_, fun i p s a b hA => ?_⟩
  · rw [g.flat]
    exact (insAt_perm _ _ _).nodup_iff.2 (List.nodup_cons.2 ⟨hx, h.nd⟩)
  · rw [g.flat, mem_insAt, h.mem, put_len]; omega
  · show ((q.us ++ [x]).map _).Nodup
    rw [List.map_append]
    refine List.nodup_append.2 ⟨h.ids, by simp, fun a ha b hb => ?_⟩
    simp only [List.map_cons, List.map_nil, List.mem_singleton] at hb
    subst hb
    rintro rfl
    exact idx_none.1 hn ha
  · rcases List.mem_append.1 hu with hu | hu
    · exact h.right u hu
    · rw [List.mem_singleton] at hu; subst hu; exact hr
  · rcases g.old hA with ⟨_, _, rfl, _⟩ | ⟨hne, a0, b0, hA0, e1, _, _⟩
    · simp [Fo.roots]
    · have hs := h.lef i p s a0 b0 hA0
      have hlt : ∀ y ∈ a0.roots, y < q.us.length := fun y hy => (h.mem y).1 (hA0.mem.2.1 y (Fo.roots_sub _ y hy))
      have he : ∀ l : List Nat, (∀ y ∈ l, y < q.us.length) → (l.map fun k => ((q.put x).u k).id) = l.map fun k => (q.u k).id := fun l hl => List.map_congr_left fun y hy => by rw [put_u (hl y hy)]
      rw [e1]
      split
      · rename_i hc
        obtain ⟨rfl, rfl⟩ := hc
        have hl : q.lefty x = some i := by
          cases hl : q.lefty x with
          | none => have := (g2 hl).1; cases this
          | some r => have := (g1 r hl).1; exact this.symm
        obtain ⟨_, _, rfl, _⟩ := g1 i hl
        rw [At.subs hA0 h.nd]
        have hs' : (a0.roots.map fun k => ((q.put x).u k).id).Pairwise fun a b => a.lt b = true := by rw [he _ hlt]; exact hs
        have := sorted_ins (f := fun k => ((q.put x).u k).id) (x := q.us.length) hs' (fun y hy => by
          simp only [put_u_new, put_u (hlt y hy)]
          intro hh
          exact idx_none.1 hn (List.mem_map.2 ⟨_, u_mem (hlt y hy), hh⟩))
        simp only [put_u_new] at this
        have e : q.kL a0.roots x.id = (a0.roots.takeWhile fun i => ((q.put x).u i).id.lt x.id).length := by
          unfold kL
          exact congrArg List.length (takeWhile_congr fun i hi => by rw [put_u (hlt i hi)])
        rw [e]; exact this
      · rw [he _ hlt]; exact hs
end Us
structure GrownN (F F' : Fo) (x n : Nat) (pa : Option Nat) (sd : Bool) (k : Nat) (up : List Nat) (pl : Nat) : Prop where
  flat : F'.flat = F.flat.take pl ++ ((List.range n).map (x + ·) ++ F.flat.drop pl)
  le : pl ≤ F.flat.length
  roots : F'.roots = if pa = none then insAt k x F.roots else F.roots
  old : ∀ {i p s a' b'}, Fo.At F' none false i p s a' b' → (∃ j, j < n ∧ i = x + j ∧ p = (if j = 0 then pa else some (x + j - 1)) ∧ a' = .nil ∧ b'.roots = (if j + 1 < n then [x + j + 1] else []) ∧ b'.sz + 1 + j = n) ∨ (i < x ∧ ∃ a b, Fo.At F none false i p s a b ∧
    a'.roots = (if pa = some i ∧ sd = true then insAt k x a.roots else a.roots) ∧ b'.roots = (if pa = some i ∧ sd = false then insAt k x b.roots else b.roots) ∧ a'.sz + b'.sz = a.sz + b.sz + (if i ∈ up then n else 0))
namespace Us
variable {q : Us} {x : Un}
theorem nx_id (x : Un) (j : Nat) : (nx x j).id = ⟨x.id.c, x.id.k + j⟩ := by
  unfold nx
  split
  · rename_i h; subst h; rfl
  · rfl
theorem puts_us (q : Us) (x : Un) : ∀ n, (q.puts x n).us = q.us ++ (List.range n).map (nx x)
  | 0 => by simp [Us.puts]
  | n + 1 => by
    have := puts_us q x n
    simp [Us.puts, Us.put, this, List.range_succ]
theorem puts_len (q : Us) (x : Un) (n : Nat) : (q.puts x n).us.length = q.us.length + n := by simp [puts_us]
theorem puts_u_new {j n : Nat} (h : j < n) : (q.puts x n).u (q.us.length + j) = nx x j := by simp [Us.u, puts_us, List.getD_eq_getElem?_getD, h]
theorem roots_nil {f : Fo} (h : f.roots = []) : f = .nil := by
  cases f with
  | nil => rfl
  | cons => simp [Fo.roots] at h
structure Runs (q : Us) (x : Un) (n : Nat) : Prop where
  pos : 1 ≤ n
  top : x.id.k + n ≤ 9007199254740992
  new : ∀ i, i < n → q.idx ⟨x.id.c, x.id.k + i⟩ = none
  may : q.may x = true
theorem runs_iff {n : Nat} : q.runs x n = true ↔ q.Runs x n := by
  unfold Us.runs
  simp only [Bool.and_eq_true, decide_eq_true_eq, List.all_eq_true, List.mem_range, Option.isNone_iff_eq_none]
  exact ⟨fun ⟨⟨⟨h1, h2⟩, h3⟩, h4⟩ => ⟨h1, h2, h3, h4⟩, fun ⟨h1, h2, h3, h4⟩ => ⟨⟨⟨h1, h2⟩, h3⟩, h4⟩⟩
theorem Runs.right {n : Nat} (r : q.Runs x n) : x.id.right = true := by have := r.may; simp only [Us.may, Bool.and_eq_true] at this; exact this.1.1.1.1
theorem Runs.rightN {n : Nat} (r : q.Runs x n) {j : Nat} (h : j < n) : (nx x j).id.right = true := by
  have h1 := r.right
  have h2 := r.top
  rw [nx_id]
  simp only [Idn.right, num, Bool.and_eq_true, decide_eq_true_eq] at h1 ⊢
  omega
theorem Runs.there {n : Nat} (r : q.Runs x n) : (x.l = ⟨0, 0⟩ ∨ ∃ i, q.idx x.l = some i) ∧ (x.r = ⟨0, 0⟩ ∨ ∃ i, q.idx x.r = some i) := by
  have := r.may
  simp only [Us.may, Us.there, Bool.and_eq_true, Bool.or_eq_true, decide_eq_true_eq, Option.isSome_iff_exists] at this
  exact ⟨this.1.1.2, this.1.2⟩
theorem puts_idx_new {n m : Nat} (hn : ∀ i, i < m → q.idx ⟨x.id.c, x.id.k + i⟩ = none) (h : n < m) : (q.puts x n).idx (nx x n).id = none := by
  have h1 := idx_none.1 (hn n h)
  rw [idx_none, puts_us, nx_id]
  simp only [List.map_append, List.mem_append, List.map_map, List.mem_map, List.mem_range, Function.comp_apply, not_or, not_exists, not_and]
  refine ⟨fun z hz e => h1 (List.mem_map.2 ⟨z, hz, e⟩), fun j hj e => ?_⟩
  rw [nx_id] at e
  have := congrArg Idn.k e
  simp only at this
  omega
theorem puts_ok (h : q.Ok) {n : Nat} (r : q.Runs x n) : ∀ m, m ≤ n → (q.puts x m).Ok
  | 0, _ => h
  | m + 1, hm => (puts_ok h r m (by omega)).put (r.rightN (by omega)) (puts_idx_new r.new (by omega))
theorem Ok.grownN (h : q.Ok) {n0 : Nat} (r : q.Runs x n0) : ∃ pa sd k up, Grown q.F (q.put x).F q.us.length pa sd k up (q.pl x) ∧ (pa = none → up = []) ∧ (∀ t, pa = some t → t ∈ q.F.flat ∧ up = Fo.path [] q.F t) ∧
    (∀ r, q.lefty x = some r → pa = some r ∧ sd = true ∧ k = q.kL (subs q.F r).1.roots x.id ∧ up = Fo.path [] q.F r) ∧
    (q.lefty x = none → sd = false ∧ pa = q.idx x.l ∧ (∀ l, q.idx x.l = some l → k = q.kR (subs q.F l).2.roots x ∧ up = Fo.path [] q.F l) ∧ (q.idx x.l = none → k = q.kR q.F.roots x ∧ up = [])) ∧
    ∀ n, n < n0 → GrownN q.F (q.puts x (n + 1)).F q.us.length (n + 1) pa sd k up (q.pl x) ∧ Fo.path [] (q.puts x (n + 1)).F (q.us.length + n) = ((List.range (n + 1)).map (q.us.length + ·)).reverse ++ up := by
  obtain ⟨pa, sd, k, up, g, g0, g3, g1, g2⟩ := h.grown x
  refine ⟨pa, sd, k, up, g, g0, g3, g1, g2, ?_⟩
  have hlt : ∀ {i : Nat}, i ∈ q.F.flat → i < q.us.length := fun hi => (h.mem _).1 hi
  intro n
  induction n with
  | zero =>
    intro hn
    have e0 : (q.puts x (0 + 1)).F = (q.put x).F := rfl
    rw [e0]
    refine ⟨⟨?_, g.le, g.roots, fun {i p s a' b'} hA => ?_⟩, ?_⟩
    · rw [g.flat]; simp [insAt]
    · rcases g.old hA with ⟨rfl, rfl, rfl, rfl⟩ | ⟨hne, a, b, h1, h2, h3, h4⟩
      · exact .inl ⟨0, by omega, rfl, by simp, rfl, by simp [Fo.roots], by simp [Fo.sz, Fo.flat]⟩
      · exact .inr ⟨hlt h1.mem.1, a, b, h1, h2, h3, by simpa using h4⟩
    · have hk := (h.put r.right (by simpa using r.new 0 (by omega))).nd
      obtain ⟨t, e, hq, ht⟩ := g.new.path (up := []) hk (by simp)
      rw [show q.us.length + 0 = q.us.length from rfl, e]
      rcases ht with rfl | ⟨t', rfl, h1, h2⟩
      · have : pa = none := by simpa using hq
        rw [g0 this]; simp
      · obtain ⟨h3, h4⟩ := g3 t' rfl
        rw [h4, ← g.keep t' h3, h1]; simp
  | succ n ih =>
    intro hn
    obtain ⟨G, hP⟩ := ih (by omega)
    have hK := puts_ok h r (n + 1) (by omega)
    have hl' : (q.puts x (n + 1)).us.length = q.us.length + (n + 1) := puts_len ..
    -- the last one
    have hlast : q.us.length + n < (q.puts x (n + 1)).us.length := by omega
    have hul : (q.puts x (n + 1)).u (q.us.length + n) = nx x n := puts_u_new (by omega)
    have hi : (q.puts x (n + 1)).idx (nx x (n + 1)).l = some (q.us.length + n) := by
      have := hK.idx_of hlast
      rw [hul, nx_id] at this
      simpa [nx] using this
    obtain ⟨p0, s0, a0, b0, hA0⟩ := Fo.At.of_mem none false ((hK.mem _).2 hlast)
    have hab : a0 = .nil ∧ b0 = .nil := by
      rcases G.old hA0 with ⟨j, hj, e, _, h1, h2, _⟩ | ⟨hh, _⟩
      · have : j = n := by omega
        subst this
        exact ⟨h1, roots_nil (by simpa using h2)⟩
      · omega
    obtain ⟨rfl, rfl⟩ := hab
    have hlf : (q.puts x (n + 1)).lefty (nx x (n + 1)) = none := by
      unfold Us.lefty
      cases hr : (q.puts x (n + 1)).idx (nx x (n + 1)).r with
      | none => rfl
      | some r' =>
        simp only [hi]
        rw [if_neg]
        intro hm
        have hr' := (idx_some hr).1
        have := (hA0.onPath (up := []) hK.nd (by simp) ((hK.mem r').2 hr')).1 (List.mem_of_mem_tail hm)
        rcases this with rfl | hh | hh
        · have e1 := (idx_some hr).2
          rw [hul] at e1
          have e2 : (nx x (n + 1)).r = x.r := by simp [nx]
          rw [e2, nx_id] at e1
          rcases r.there.2 with h0 | ⟨i, h0⟩
          · rw [h0] at e1; have := r.rightN (j := n) (by omega); rw [nx_id, e1] at this; exact Idn.right_ne this rfl
          · rw [← e1, r.new n (by omega)] at h0; cases h0
        · simp [Fo.flat] at hh
        · simp [Fo.flat] at hh
    obtain ⟨pa', sd', k', up', g', _, _, _, g2'⟩ := hK.grown (nx x (n + 1))
    obtain ⟨rfl, e2, e3, _⟩ := g2' hlf
    obtain ⟨rfl, rfl⟩ := e3 _ hi
    rw [hi] at e2
    subst e2
    rw [At.subs hA0 hK.nd] at g'
    have hk0 : (q.puts x (n + 1)).kR (Fo.nil).roots (nx x (n + 1)) = 0 := by simp [Us.kR, Fo.roots]
    rw [hk0] at g'
    have hpl : (q.puts x (n + 1)).pl (nx x (n + 1)) = q.pl x + (n + 1) := by
      have h0 : (q.puts x (n + 1)).pl (nx x (n + 1)) = (q.puts x (n + 1)).place (q.us.length + n) + 1 + 0 := by
        unfold Us.pl
        simp only [hlf, hi, At.subs hA0 hK.nd, hk0, Fo.pre]
      have h1 := hK.place_get hlast
      have h2 : (q.puts x (n + 1)).F.flat[q.pl x + n]? = some (q.us.length + n) := by
        have ht : (q.F.flat.take (q.pl x)).length = q.pl x := by rw [List.length_take]; exact Nat.min_eq_left G.le
        rw [G.flat, List.getElem?_append_right (by omega), ht, List.getElem?_append_left (by simp)]
        simp
      have := (List.getElem?_inj (List.getElem?_eq_some_iff.1 h1).1 hK.nd).1 (h1.trans h2.symm)
      omega
    rw [hpl, hl'] at g'
    have hsucc : (q.puts x (n + 1 + 1)).F = ((q.puts x (n + 1)).put (nx x (n + 1))).F := rfl
    rw [hsucc]
    refine ⟨⟨?_, G.le, ?_, fun {i p s a' b'} hA => ?_⟩, ?_⟩
    · have ht : (q.F.flat.take (q.pl x)).length = q.pl x := by rw [List.length_take]; exact Nat.min_eq_left G.le
      rw [g'.flat, G.flat]
      have e : q.pl x + (n + 1) = (q.F.flat.take (q.pl x)).length + (((List.range (n + 1)).map (q.us.length + ·)).length + 0) := by simp [ht]
      rw [e, insAt_append, insAt_append, insAt_zero, List.range_succ (n := n + 1)]
      simp
    · rw [g'.roots, if_neg (by simp), G.roots]
    · rcases g'.old hA with ⟨rfl, rfl, rfl, rfl⟩ | ⟨hne, a, b, h1, h2, h3, h4⟩
      · exact .inl ⟨n + 1, by omega, rfl, by rw [if_neg (by omega)]; exact congrArg some (by omega), rfl, by simp [Fo.roots], by simp [Fo.sz, Fo.flat]; omega⟩
      · have hm := hP ▸ h4
        clear h4
        simp only [and_true, Bool.false_eq_true, and_false, if_false] at h2 h3
        rcases G.old h1 with ⟨j, hj, rfl, hp, rfl, hb, hs⟩ | ⟨hi', a2, b2, k1, k2, k3, k4⟩
        · have h5 := roots_nil h2
          subst h5
          have hin : q.us.length + j ∈ ((List.range (n + 1)).map (q.us.length + ·)).reverse ++ up := by simp; exact .inl (by omega)
          rw [if_pos hin] at hm
          refine .inl ⟨j, by omega, rfl, hp, rfl, ?_, by simp only [Fo.sz, Fo.flat, List.length_nil] at hm hs ⊢; omega⟩
          rw [h3, hb]
          by_cases hjn : j = n
          · subst hjn; simp [insAt, Nat.add_assoc]
          · rw [if_neg (by simp; omega), if_pos (by omega), if_pos (by omega)]
        · have hne' : ¬ q.us.length + n = i := by omega
          refine .inr ⟨hi', a2, b2, k1, h2.trans k2, ?_, ?_⟩
          · rw [h3, if_neg (by simp [hne']), k3]
          · rw [hm, k4]
            have : i ∈ ((List.range (n + 1)).map (q.us.length + ·)).reverse ++ up ↔ i ∈ up := by
              simp only [List.mem_append, List.mem_reverse, List.mem_map, List.mem_range, or_iff_right_iff_imp]
              rintro ⟨j, _, rfl⟩; omega
            simp only [this]
            split <;> omega
    · have hk := (hK.put (r.rightN (j := n + 1) (by omega)) (puts_idx_new r.new (by omega))).nd
      have hnew := g'.new
      obtain ⟨t, e, hq, ht⟩ := hnew.path (up := []) hk (by simp)
      rw [show q.us.length + (n + 1) = q.us.length + (n + 1) from rfl, e]
      rcases ht with rfl | ⟨t', h0, h1, h2⟩
      · simp at hq
      · cases h0
        rw [← h1, g'.keep _ ((hK.mem _).2 hlast), hP, List.range_succ (n := n + 1)]
        simp
end Us
section
open Fo
theorem At.ofNth {i : Nat} {l r : Fo} : ∀ {k : Nat} {f : Fo} (pa : Option Nat) (sd : Bool), Fo.nth k f = some (i, l, r) → Fo.At f pa sd i pa sd l r
  | _, .nil, _, _, h => by simp [Fo.nth] at h
  | 0, .cons j a b n, pa, sd, h => by
    simp only [Fo.nth, Option.some.injEq, Prod.mk.injEq] at h
    obtain ⟨rfl, rfl, rfl⟩ := h
    exact .inl ⟨rfl, rfl, rfl, rfl, rfl⟩
  | k + 1, .cons j a b n, pa, sd, h => .inr (.inr (.inr (At.ofNth (k := k) pa sd (by simpa [Fo.nth] using h))))
theorem At.below {p : Nat} {q : Option Nat} {s : Bool} {a b : Fo} {y : Nat} {q' : Option Nat} {s' : Bool} {a' b' : Fo} : ∀ {f : Fo} {pa : Option Nat} {sd : Bool}, Fo.At f pa sd p q s a b → (Fo.At a (some p) true y q' s' a' b' ∨ Fo.At b (some p) false y q' s' a' b') → Fo.At f pa sd y q' s' a' b'
  | .nil, _, _, h, _ => h.elim
  | .cons i l r n, pa, sd, h, h' => by
    rcases h with ⟨rfl, _, _, rfl, rfl⟩ | h | h | h
    · rcases h' with h' | h'
      · exact .inr (.inl h')
      · exact .inr (.inr (.inl h'))
    · exact .inr (.inl (At.below h h'))
    · exact .inr (.inr (.inl (At.below h h')))
    · exact .inr (.inr (.inr (At.below h h')))
end
theorem roots_le : ∀ (f : Fo), f.roots.length ≤ f.sz
  | .nil => by simp [Fo.roots, Fo.sz]
  | .cons i l r n => by
    have := roots_le n
    simp only [Fo.roots, Fo.sz, Fo.flat, List.length_cons, List.length_append] at this ⊢
    omega
theorem Us.Ok.place_at {q : Us} (h : q.Ok) {r : Nat} {p : Option Nat} {s : Bool} {a b : Fo} (hA : Fo.At q.F none false r p s a b) : a.sz ≤ q.place r ∧ q.place r + b.sz < q.us.length := by
  obtain ⟨u, v, e, _⟩ := hA.split h.nd
  have hr := (h.mem r).1 hA.mem.1
  have h1 := h.place_get hr
  have h2 : q.F.flat[u.length + a.sz]? = some r := by
    rw [e, List.getElem?_append_right (by omega), List.getElem?_append_right (by simp [Fo.sz])]
    simp [Fo.sz]
  have h3 := (List.getElem?_inj (List.getElem?_eq_some_iff.1 h1).1 h.nd).1 (h1.trans h2.symm)
  have h4 := h.flen
  have h5 := congrArg List.length e
  simp only [List.length_append, List.length_cons, Fo.sz] at h5 h3 ⊢
  omega
end Go.Proofs.YtgpgladbdoimdaaGreatDoor
end
section
namespace Go.Ev
open Go.Lib
def nx (l : List UInt8) : Nat × Nat := if decodeL l = (65533, 1) then (0, 0) else decodeL l
def Lead (b k r low : Nat) : Prop := (194 ≤ b ∧ b < 224 ∧ k = 2 ∧ r = b % 32 ∧ low = 128) ∨ (224 ≤ b ∧ b < 240 ∧ k = 3 ∧ r = b % 16 ∧ low = 2048) ∨ (240 ≤ b ∧ b < 245 ∧ k = 4 ∧ r = b % 8 ∧ low = 65536)
def acc (l : List UInt8) (r : Nat) (i : Nat) : Nat := ((l.drop 1).take (i - 1)).foldl (fun a b => a * 64 + b.toNat % 64) r
theorem acc_succ (l : List UInt8) (r i : Nat) (h : i < l.length) (h1 : 1 ≤ i) : acc l r (i + 1) = acc l r i * 64 + l[i].toNat % 64 := by
  obtain ⟨j, rfl⟩ : ∃ j, i = j + 1 := ⟨i - 1, by omega⟩
  unfold acc
  have h2 : j < (l.drop 1).length := by rw [List.length_drop]; omega
  rw [Nat.add_sub_cancel, Nat.add_sub_cancel, List.take_succ_eq_append_getElem h2, List.foldl_append]
  have e : (l.drop 1)[j] = l[j + 1] := by simp
  simp only [List.foldl_cons, List.foldl_nil, e]
theorem getD_get {l : List UInt8} {i : Nat} (h : i < l.length) : l.getD i 0 = l[i] := by simp [List.getD, h]
theorem nx_ascii (l : List UInt8) (h : 0 < l.length) (hb : l[0].toNat < 128) : nx l = (l[0].toNat, 1) := by
  unfold nx
  rw [decodeL_N, getD_get h]
  unfold decodeN
  rw [if_pos hb, if_neg]
  intro hh
  have := congrArg Prod.fst hh
  simp only at this
  omega
theorem nx_none (l : List UInt8) (h : 0 < l.length) (h1 : 128 ≤ l[0].toNat) (h2 : ¬ ∃ k r low, Lead l[0].toNat k r low) : nx l = (0, 0) := by
  have hlt := l[0].toNat_lt
  have hb : l[0].toNat < 194 ∨ 245 ≤ l[0].toNat := by
    rcases Nat.lt_or_ge l[0].toNat 194 with g | g
    · exact .inl g
    · rcases Nat.lt_or_ge l[0].toNat 245 with g2 | g2
      · exfalso
        apply h2
        rcases Nat.lt_or_ge l[0].toNat 224 with g3 | g3
        · exact ⟨_, _, _, .inl ⟨g, g3, rfl, rfl, rfl⟩⟩
        · rcases Nat.lt_or_ge l[0].toNat 240 with g4 | g4
          · exact ⟨_, _, _, .inr (.inl ⟨g3, g4, rfl, rfl, rfl⟩)⟩
          · exact ⟨_, _, _, .inr (.inr ⟨g4, g2, rfl, rfl, rfl⟩)⟩
      · exact .inr g2
  unfold nx
  rw [decodeL_N, getD_get h, decodeN_bad _ _ _ _ _ (by omega), if_pos rfl]
def badR (r low : Nat) : Bool := decide (r < low) || (decide (1114111 < r) || (decide (55296 ≤ r) && decide (r < 57344)))
set_option maxRecDepth 10000 in
theorem nx_lead (l : List UInt8) {k r low : Nat} (h : 0 < l.length) (hL : Lead l[0].toNat k r low) :
    nx l = if k ≤ l.length ∧ (∀ i (hi : i < l.length), 1 ≤ i → i < k → l[i].toNat / 64 = 2) ∧ badR (acc l r k) low = false then (acc l r k, k) else (0, 0) := by
  have g1 : ∀ i, l.length ≤ i → (l.getD i 0).toNat = 0 := fun i hi => by simp [List.getD, hi]
  have key : decodeN l.length l[0].toNat (l.getD 1 0).toNat (l.getD 2 0).toNat (l.getD 3 0).toNat = (65533, 1) ∧ ¬ (k ≤ l.length ∧ (∀ i (hi : i < l.length), 1 ≤ i → i < k → l[i].toNat / 64 = 2) ∧ badR (acc l r k) low = false) ∨
      decodeN l.length l[0].toNat (l.getD 1 0).toNat (l.getD 2 0).toNat (l.getD 3 0).toNat = (acc l r k, k) ∧ (k ≤ l.length ∧ (∀ i (hi : i < l.length), 1 ≤ i → i < k → l[i].toNat / 64 = 2) ∧ badR (acc l r k) low = false) := by
    have a1 : acc l r 1 = r := rfl
    have a2 : 1 < l.length → acc l r 2 = r * 64 + (l.getD 1 0).toNat % 64 := fun hh => by
      rw [acc_succ l r 1 (by omega) (by omega), a1, getD_get (by omega)]
    have a3 : 2 < l.length → acc l r 3 = (r * 64 + (l.getD 1 0).toNat % 64) * 64 + (l.getD 2 0).toNat % 64 := fun hh => by
      rw [acc_succ l r 2 (by omega) (by omega), a2 (by omega), getD_get (show 2 < l.length by omega)]
    have a4 : 3 < l.length → acc l r 4 = ((r * 64 + (l.getD 1 0).toNat % 64) * 64 + (l.getD 2 0).toNat % 64) * 64 + (l.getD 3 0).toNat % 64 := fun hh => by
      rw [acc_succ l r 3 (by omega) (by omega), a3 (by omega), getD_get (show 3 < l.length by omega)]
    have q1 : ∀ i, i < l.length → ((∀ hi : i < l.length, l[i].toNat / 64 = 2) ↔ (l.getD i 0).toNat / 64 = 2) := fun i hi =>
      ⟨fun hh => by rw [getD_get (by omega)]; exact hh (by omega), fun hh hi => by rw [getD_get hi] at hh; exact hh⟩
    have hbad : ∀ r low, badR r low = false ↔ ¬ r < low ∧ ¬ 1114111 < r ∧ ¬ (55296 ≤ r ∧ r < 57344) := fun r low => by
      unfold badR
      simp only [Bool.or_eq_false_iff, decide_eq_false_iff_not, Bool.and_eq_false_iff]
      constructor
      · rintro ⟨x1, x2, x3⟩; exact ⟨x1, x2, by omega⟩
      · rintro ⟨x1, x2, x3⟩; exact ⟨x1, x2, by omega⟩
    rw [hbad]
    generalize hb1 : (l.getD 1 0).toNat = b1 at *
    generalize hb2 : (l.getD 2 0).toNat = b2 at *
    generalize hb3 : (l.getD 3 0).toNat = b3 at *
    have z1 : l.length ≤ 1 → b1 = 0 := fun hh => by rw [← hb1]; exact g1 1 hh
    have z2 : l.length ≤ 2 → b2 = 0 := fun hh => by rw [← hb2]; exact g1 2 hh
    have z3 : l.length ≤ 3 → b3 = 0 := fun hh => by rw [← hb3]; exact g1 3 hh
    rcases hL with ⟨h1, h2, rfl, rfl, rfl⟩ | ⟨h1, h2, rfl, rfl, rfl⟩ | ⟨h1, h2, rfl, rfl, rfl⟩
    · by_cases hc : 1 < l.length ∧ b1 / 64 = 2
      · right
        refine ⟨?_, by omega, fun i hi h3 h4 => ?_, ?_⟩
        · unfold decodeN
          rw [if_neg (by omega), if_pos (by omega), if_pos (by omega), a2 hc.1]
        · obtain rfl : i = 1 := by omega
          exact (q1 1 hc.1).2 (hb1.symm ▸ hc.2) hi
        · rw [a2 hc.1]; omega
      · left
        refine ⟨?_, fun hh => hc ⟨by omega, ?_⟩⟩
        · unfold decodeN
          rw [if_neg (by omega), if_neg (by omega), if_neg (by omega), if_neg (by omega)]
        · have := (q1 1 (by omega)).1 (fun hi => hh.2.1 1 hi (by omega) (by omega))
          rw [hb1] at this; exact this
    · by_cases hc : (1 < l.length ∧ b1 / 64 = 2) ∧ (2 < l.length ∧ b2 / 64 = 2)
      · have e : acc l (l[0].toNat % 16) 3 = l[0].toNat % 16 * 4096 + b1 % 64 * 64 + b2 % 64 := by rw [a3 hc.2.1]; omega
        by_cases hv : l[0].toNat % 16 * 4096 + b1 % 64 * 64 + b2 % 64 ≥ 2048 ∧ (l[0].toNat % 16 * 4096 + b1 % 64 * 64 + b2 % 64 < 55296 ∨ (57344 ≤ l[0].toNat % 16 * 4096 + b1 % 64 * 64 + b2 % 64 ∧ l[0].toNat % 16 * 4096 + b1 % 64 * 64 + b2 % 64 ≤ 1114111))
        · right
          refine ⟨?_, by omega, fun i hi h3 h4 => ?_, ?_⟩
          · unfold decodeN
            rw [if_neg (by omega), if_neg (by omega), if_pos (by omega), if_pos hv, e]
          · rcases (show i = 1 ∨ i = 2 by omega) with rfl | rfl
            · exact (q1 1 hc.1.1).2 (hb1.symm ▸ hc.1.2) hi
            · exact (q1 2 hc.2.1).2 (hb2.symm ▸ hc.2.2) hi
          · rw [e]; omega
        · left
          refine ⟨?_, fun hh => hv ?_⟩
          · unfold decodeN
            rw [if_neg (by omega), if_neg (by omega), if_pos (by omega), if_neg hv]
          · have := hh.2.2; rw [e] at this; omega
      · left
        refine ⟨?_, fun hh => hc ⟨⟨by omega, ?_⟩, by omega, ?_⟩⟩
        · unfold decodeN
          rw [if_neg (by omega), if_neg (by omega), if_neg (by omega), if_neg (by omega)]
        · have := (q1 1 (by omega)).1 (fun hi => hh.2.1 1 hi (by omega) (by omega))
          rw [hb1] at this; exact this
        · have := (q1 2 (by omega)).1 (fun hi => hh.2.1 2 hi (by omega) (by omega))
          rw [hb2] at this; exact this
    · by_cases hc : (1 < l.length ∧ b1 / 64 = 2) ∧ (2 < l.length ∧ b2 / 64 = 2) ∧ (3 < l.length ∧ b3 / 64 = 2)
      · have e : acc l (l[0].toNat % 8) 4 = l[0].toNat % 8 * 262144 + b1 % 64 * 4096 + b2 % 64 * 64 + b3 % 64 := by rw [a4 hc.2.2.1]; omega
        by_cases hv : l[0].toNat % 8 * 262144 + b1 % 64 * 4096 + b2 % 64 * 64 + b3 % 64 ≥ 65536 ∧ (l[0].toNat % 8 * 262144 + b1 % 64 * 4096 + b2 % 64 * 64 + b3 % 64 < 55296 ∨ (57344 ≤ l[0].toNat % 8 * 262144 + b1 % 64 * 4096 + b2 % 64 * 64 + b3 % 64 ∧ l[0].toNat % 8 * 262144 + b1 % 64 * 4096 + b2 % 64 * 64 + b3 % 64 ≤ 1114111))
        · right
          refine ⟨?_, by omega, fun i hi h3 h4 => ?_, ?_⟩
          · unfold decodeN
            rw [if_neg (by omega), if_neg (by omega), if_neg (by omega), if_pos (by omega), if_pos hv, e]
          · rcases (show i = 1 ∨ i = 2 ∨ i = 3 by omega) with rfl | rfl | rfl
            · exact (q1 1 hc.1.1).2 (hb1.symm ▸ hc.1.2) hi
            · exact (q1 2 hc.2.1.1).2 (hb2.symm ▸ hc.2.1.2) hi
            · exact (q1 3 hc.2.2.1).2 (hb3.symm ▸ hc.2.2.2) hi
          · rw [e]; omega
        · left
          refine ⟨?_, fun hh => hv ?_⟩
          · unfold decodeN
            rw [if_neg (by omega), if_neg (by omega), if_neg (by omega), if_pos (by omega), if_neg hv]
          · have := hh.2.2; rw [e] at this; omega
      · left
        refine ⟨?_, fun hh => hc ⟨⟨by omega, ?_⟩, ⟨by omega, ?_⟩, by omega, ?_⟩⟩
        · unfold decodeN
          rw [if_neg (by omega), if_neg (by omega), if_neg (by omega), if_neg (by omega)]
        · have := (q1 1 (by omega)).1 (fun hi => hh.2.1 1 hi (by omega) (by omega))
          rw [hb1] at this; exact this
        · have := (q1 2 (by omega)).1 (fun hi => hh.2.1 2 hi (by omega) (by omega))
          rw [hb2] at this; exact this
        · have := (q1 3 (by omega)).1 (fun hi => hh.2.1 3 hi (by omega) (by omega))
          rw [hb3] at this; exact this
  unfold nx
  rw [decodeL_N, getD_get h]
  rcases key with ⟨e, hc⟩ | ⟨e, hc⟩
  · rw [e, if_pos rfl, if_neg hc]
  · rw [e, if_pos hc, if_neg]
    intro hh
    have := congrArg Prod.snd hh
    simp only at this
    rcases hL with h1 | h1 | h1 <;> omega
def runesF : Nat → List UInt8 → Option (List Nat)
  | 0, l => if l = [] then some [] else none
  | n + 1, l => if l = [] then some [] else if (nx l).2 = 0 then none else (runesF n (l.drop (nx l).2)).map ((nx l).1 :: ·)
def runesL (l : List UInt8) : Option (List Nat) := runesF l.length l
theorem nx_width (l : List UInt8) (h : l ≠ []) : (nx l).2 = 0 ∨ (1 ≤ (nx l).2 ∧ (nx l).2 ≤ l.length) := by
  have hl : 0 < l.length := List.length_pos_iff.2 h
  by_cases hb : l[0].toNat < 128
  · rw [nx_ascii l hl hb]; right; simp only; omega
  · by_cases hL : ∃ k r low, Lead l[0].toNat k r low
    · obtain ⟨k, r, low, hL⟩ := hL
      rw [nx_lead l hl hL]
      split
      · rename_i hh
        right
        have : 1 ≤ k := by rcases hL with h1 | h1 | h1 <;> omega
        exact ⟨this, hh.1⟩
      · exact .inl rfl
    · rw [nx_none l hl (by omega) hL]; exact .inl rfl
theorem runesF_fuel : ∀ (n m : Nat) (l : List UInt8), l.length ≤ n → l.length ≤ m → runesF n l = runesF m l
  | 0, 0, _, _, _ => rfl
  | 0, m + 1, l, hn, _ => by
    have : l = [] := List.eq_nil_of_length_eq_zero (by omega)
    subst this; simp [runesF]
  | n + 1, 0, l, _, hm => by
    have : l = [] := List.eq_nil_of_length_eq_zero (by omega)
    subst this; simp [runesF]
  | n + 1, m + 1, l, hn, hm => by
    unfold runesF
    by_cases h : l = []
    · rw [if_pos h, if_pos h]
    · rw [if_neg h, if_neg h]
      rcases nx_width l h with h0 | h0
      · rw [if_pos h0, if_pos h0]
      · rw [if_neg (by omega), if_neg (by omega), runesF_fuel n m (l.drop (nx l).2) (by rw [List.length_drop]; omega) (by rw [List.length_drop]; omega)]
theorem runesL_nil : runesL [] = some [] := rfl
theorem runesL_step (l : List UInt8) (h : l ≠ []) : runesL l = if (nx l).2 = 0 then none else (runesL (l.drop (nx l).2)).map ((nx l).1 :: ·) := by
  obtain ⟨n, hn⟩ : ∃ n, l.length = n + 1 := ⟨l.length - 1, by have := List.length_pos_iff.2 h; omega⟩
  unfold runesL
  rw [hn]
  conv => lhs; unfold runesF
  rw [if_neg h]
  rcases nx_width l h with h0 | h0
  · rw [if_pos h0, if_pos h0]
  · rw [if_neg (by omega), if_neg (by omega), runesF_fuel n _ (l.drop (nx l).2) (by rw [List.length_drop]; omega) (Nat.le_refl _)]
theorem nx_zero (l : List UInt8) (h : l ≠ []) : (nx l).2 = 0 ↔ decodeL l = (65533, 1) := by
  have hl : 0 < l.length := List.length_pos_iff.2 h
  have := decodeL_width l
  unfold nx
  split
  · rename_i hh; simp [hh]
  · rename_i hh
    constructor
    · intro h0; omega
    · intro h0; exact absurd h0 hh
theorem nx_some (l : List UInt8) (h : (nx l).2 ≠ 0) : nx l = decodeL l := by
  unfold nx at *
  split at h
  · exact absurd rfl h
  · rename_i hh; rw [if_neg hh]
theorem valid_runes : ∀ (n : Nat) (l : List UInt8), l.length ≤ n → validD l = (runesL l).isSome
  | 0, l, h => by
    have : l = [] := List.eq_nil_of_length_eq_zero (by omega)
    subst this; rfl
  | n + 1, l, h => by
    by_cases hn : l = []
    · subst hn; rfl
    · rw [validD_step l hn, runesL_step l hn]
      by_cases h0 : decodeL l = (65533, 1)
      · rw [if_pos ((nx_zero l hn).2 h0), if_pos (by rw [h0]; exact ⟨rfl, rfl⟩)]; rfl
      · have h1 : (nx l).2 ≠ 0 := fun hh => h0 ((nx_zero l hn).1 hh)
        rw [if_neg h1, if_neg (fun hh => h0 (Prod.ext hh.1 hh.2))]
        have h2 := nx_some l h1
        rcases nx_width l hn with h3 | h3
        · exact absurd h3 h1
        · rw [← h2, valid_runes n (l.drop (nx l).2) (by rw [List.length_drop]; omega)]
          cases runesL (l.drop (nx l).2) <;> rfl
theorem valid_eq (l : List UInt8) : validD l = (runesL l).isSome := valid_runes l.length l (Nat.le_refl _)
theorem runesL_len : ∀ (n : Nat) (l : List UInt8) (r : List Nat), l.length ≤ n → runesL l = some r → r.length ≤ l.length
  | 0, l, r, h, hr => by
    have : l = [] := List.eq_nil_of_length_eq_zero (by omega)
    subst this
    rw [runesL_nil] at hr
    simp only [Option.some.injEq] at hr
    subst hr; simp
  | n + 1, l, r, h, hr => by
    by_cases hn : l = []
    · subst hn
      rw [runesL_nil] at hr
      simp only [Option.some.injEq] at hr
      subst hr; simp
    · rw [runesL_step l hn] at hr
      split at hr
      · cases hr
      · rename_i h1
        obtain ⟨r', hr', rfl⟩ := Option.map_eq_some_iff.1 hr
        rcases nx_width l hn with h3 | h3
        · exact absurd h3 h1
        · have := runesL_len n _ r' (by rw [List.length_drop]; omega) hr'
          rw [List.length_drop] at this
          simp only [List.length_cons]; omega
end Go.Ev
end
section
namespace Go.Ev
open Go.RowKit
theorem str_sz (l : List UInt8) : (str l).size = l.length := by show l.toArray.size = _; simp
theorem str_extract (l : List UInt8) (a b : Nat) : (str l).extract a b = str ((l.take b).drop a) := by
  apply ByteArray.ext
  rw [ByteArray.data_extract]
  show l.toArray.extract a b = ((l.take b).drop a).toArray
  apply Array.ext'
  rw [Array.toList_extract, List.extract_eq_take_drop]
  simp [List.drop_take]
theorem str_data (l : List UInt8) : (str l).data.toList = l := by show l.toArray.toList = l; simp
section
variable {P : Program} {T : Ty} {ops : Array Oper} {Q : Exit → Act → World → Prop} {rest : List Oper} {n : Nat} {e e' : Env} {D : Fr} {m0 m : World} {M0 X : List Nat} {H : List Asn}
  {d : Option Tmp} {x y z : Operand} {t ty tx : TypeId} {pos : String} {aft : Array Edge} {g : Option (Nat × Bool)} {v : Value}
theorem isStr (hT : T.Ok P) (ht : (T.row t).map (·.k) = some .str) : P.underlying t = some .string := by
  obtain ⟨r, hr, hk⟩ := Option.map_eq_some_iff.1 ht
  have := (hT.row hr).k
  rw [hk] at this
  exact this
end
end Go.Ev
end
section
namespace Go.Proofs.YtgpgladbdoimdaaGreatDoor
open Go.Ev Go.Ids
structure Vl where
  k : Nat
  n : Int
  f : Nat
  s : List UInt8
def Vl.zero : Vl := ⟨0, 0, 0, []⟩
def vC (v : Vl) : List Value := [.int .i64 v.k, .int .i64 v.n, .float .f64 v.f, .string (str v.s)]
def vV (v : Vl) : Value := .agg (vC v).toArray
def nanB (f : Nat) : Bool := FloatKind.f64.format.order f f != some .eq
def bitsB (f : Nat) : Nat := if nanB f then 9221120237041090560 else f
def Vl.clean (v : Vl) : Vl := { v with f := bitsB v.f }
theorem order_self (f : Nat) : FloatKind.f64.format.order f f = none ∨ FloatKind.f64.format.order f f = some .eq := by
  unfold Ieee.Format.order
  generalize FloatKind.f64.format.read f = x
  cases x <;> simp [Ieee.Datum.order]
theorem nanB_0 : nanB 0 = false := by decide +kernel
def Vl.Ok (v : Vl) : Prop := (v.k = 0 ∧ v.n = 0 ∧ v.f = 0 ∧ v.s = []) ∨ (v.k = 5 ∧ v.n = 0 ∧ v.f = 0 ∧ v.s = []) ∨ (v.k = 1 ∧ (v.n = 0 ∨ v.n = 1) ∧ v.f = 0 ∧ v.s = []) ∨ (v.k = 2 ∧ v.f = 0 ∧ v.s = []) ∨ (v.k = 3 ∧ v.n = 0 ∧ v.s = []) ∨
  (v.k = 4 ∧ v.n = 0 ∧ v.f = 0 ∧ v.s.length ≤ 4096 ∧ (runesL v.s).isSome = true)
theorem Vl.Ok.clean {v : Vl} (h : v.Ok) : v.clean.Ok := by
  have h0 : bitsB 0 = 0 := by simp [bitsB, nanB_0]
  rcases h with ⟨h1, h2, h3, h4⟩ | ⟨h1, h2, h3, h4⟩ | ⟨h1, h2, h3, h4⟩ | ⟨h1, h3, h4⟩ | ⟨h1, h2, h4⟩ | ⟨h1, h2, h3, h4⟩
  · exact .inl ⟨h1, h2, by show bitsB v.f = 0; rw [h3, h0], h4⟩
  · exact .inr (.inl ⟨h1, h2, by show bitsB v.f = 0; rw [h3, h0], h4⟩)
  · exact .inr (.inr (.inl ⟨h1, h2, by show bitsB v.f = 0; rw [h3, h0], h4⟩))
  · exact .inr (.inr (.inr (.inl ⟨h1, by show bitsB v.f = 0; rw [h3, h0], h4⟩)))
  · exact .inr (.inr (.inr (.inr (.inl ⟨h1, h2, h4⟩))))
  · exact .inr (.inr (.inr (.inr (.inr ⟨h1, h2, by show bitsB v.f = 0; rw [h3, h0], h4⟩))))
structure Anc where
  id : Idn
  b : Bool
  deriving DecidableEq
structure Opr where
  id : Idn
  k : Nat
  st : Nat
  l : Idn
  r : Idn
  t : List UInt8
  v : Vl
  key : List UInt8
  p : Idn
  fr : Anc
  to : Anc
def oC (o : Opr) : List Value := [.int .u64 o.id.c, .int .u64 o.id.k, .int .i64 o.k, .int .u64 o.st, .int .u64 o.l.c, .int .u64 o.l.k, .int .u64 o.r.c, .int .u64 o.r.k, .string (str o.t), .int .i64 o.v.k, .int .i64 o.v.n, .float .f64 o.v.f, .string (str o.v.s), .string (str o.key), .int .u64 o.p.c, .int .u64 o.p.k,
  .int .u64 o.fr.id.c, .int .u64 o.fr.id.k, .bool o.fr.b, .int .u64 o.to.id.c, .int .u64 o.to.id.k, .bool o.to.b]
def oV (o : Opr) : Value := .agg (oC o).toArray
def O0 : Idn := ⟨0, 0⟩
def Opr.n (o : Opr) : Nat := if o.k = 1 then ((runesL o.t).getD []).length else 1
def named (i : Idn) : Bool := decide (i = O0) || i.right
def Opr.names (o : Opr) : List Idn := [o.l, o.r, o.fr.id, o.to.id, o.p]
def keyOk (k : List UInt8) : Prop := 1 ≤ k.length ∧ k.length ≤ 64 ∧ (runesL k).isSome = true
def stOk (n : Nat) : Prop := 1 ≤ n ∧ n ≤ 9007199254740991
structure Good (o : Opr) : Prop where
  id : o.id.right = true
  top : o.id.k + o.n ≤ 9007199254740992
  names : ∀ i ∈ o.names, named i = true
  own : ∀ i ∈ o.names, ¬ (i.c = o.id.c ∧ o.id.k ≤ i.k ∧ i.k < o.id.k + o.n)
  kind : (o.k = 1 ∧ (runesL o.t).isSome = true ∧ 1 ≤ o.n ∧ o.n ≤ 4096 ∧ o.st = 0 ∧ o.v = .zero ∧ o.key = [] ∧ o.p = O0 ∧ o.fr = ⟨O0, false⟩ ∧ o.to = ⟨O0, false⟩) ∨
    (o.k = 2 ∧ o.v.Ok ∧ o.v.k ≠ 5 ∧ o.st = 0 ∧ o.t = [] ∧ o.key = [] ∧ o.p = O0 ∧ o.fr = ⟨O0, false⟩ ∧ o.to = ⟨O0, false⟩) ∨
    (o.k = 3 ∧ o.v.Ok ∧ o.v.k ≠ 5 ∧ stOk o.st ∧ keyOk o.key ∧ o.t = [] ∧ o.l = O0 ∧ o.r = O0 ∧ o.p = O0) ∨
    (o.k = 4 ∧ o.v.Ok ∧ stOk o.st ∧ keyOk o.key ∧ o.t = [] ∧ o.l = O0 ∧ o.r = O0 ∧ o.fr = ⟨O0, false⟩ ∧ o.to = ⟨O0, false⟩)
  small : o.t.length ≤ 1000000
theorem Good.n_pos {o : Opr} (h : Good o) : 1 ≤ o.n := by
  rcases h.kind with ⟨_, _, h, _⟩ | ⟨h, _⟩ | ⟨h, _⟩ | ⟨h, _⟩
  · exact h
  all_goals simp [Opr.n, h]
theorem Good.n_le {o : Opr} (h : Good o) : o.n ≤ 4096 := by
  rcases h.kind with ⟨_, _, _, h, _⟩ | ⟨h, _⟩ | ⟨h, _⟩ | ⟨h, _⟩
  · exact h
  all_goals simp [Opr.n, h]
end Go.Proofs.YtgpgladbdoimdaaGreatDoor
end
section
namespace Go.Ev
open Go.RowKit
theorem AllIn.of_sub {H : List Asn} : ∀ {L : List Asn}, (∀ A ∈ L, A ∈ H) → AllIn H L
  | [], _ => .nil
  | A :: _, h => .cons (h A (zS ..)) (AllIn.of_sub fun B hB => h B (zO _ hB))
theorem AllIn.self (H : List Asn) : AllIn H H := AllIn.of_sub fun _ h => h
theorem Sels.self : ∀ (H : List Asn), Sels H H []
  | [] => .nil
  | _ :: H => .own .head (Sels.self H)
theorem AllIn.appL (H F : List Asn) : AllIn (H ++ F) H := AllIn.of_sub fun _ h => List.mem_append_left _ h
theorem AllIn.more {H L : List Asn} (B : Asn) (h : AllIn H L) : AllIn (B :: H) L := AllIn.of_sub fun _ hA => zO _ (h.mem hA)
section
variable {P : Program} {T : Ty} {ops : Array Oper} {Q : Exit → Act → World → Prop} {l l' rest : List Oper} {n : Nat} {e e' : Env} {D : Fr} {ds : List Deferred} {m0 m : World} {M0 X : List Nat} {H H' F Pre L : List Asn}
  {d : Option Tmp} {x y : Operand} {t ty : TypeId} {pos : String} {aft : Array Edge} {g : Option (Nat × Bool)} {v : Value} {r : Row} {J : World → Prop} {fin : List Nat} {fuel fuel' : Nat} {listed listed' : Array Bool}
theorem RL.autoK (k : Nat) (hT : T.Ok P) (h : runA T ops n k e l = (e', l')) (_ : Nat.blt l'.length l.length = true) (hk : RL P ops Q l' n e' D m) : RL P ops Q l n e D m := runA_sound hT k e l e' l' h hk
def rdyL (ops : Array Oper) (L : List Bool) : List Nat :=
  (List.range ops.size).filter fun i => !L.getD i true && ((ops[i]?).map fun o => o.after.toList.all fun e => !Region.binds .any e || L.getD e.on false).getD false
def dirL (ops : Array Oper) (f i : Nat) : Bool := match ops[f]? with
  | some o => o.after.toList.any fun e => Region.binds .any e && Nat.beq e.on i
  | none => true
def depL (ops : Array Oper) (L : List Bool) : Nat → Nat → Nat → Bool
  | 0, f, i => dirL ops f i
  | n + 1, f, i => dirL ops f i || (List.range ops.size).any fun k => dirL ops f k && (!L.getD k true && depL ops L n k i)
def waitsL (ops : Array Oper) (fin : List Nat) (L : List Bool) (i : Nat) : Bool := fin.all fun f => L.getD f true || depL ops L 3 f i
def pickV (T : Ty) (ops : Array Oper) (fin : List Nat) (L : List Bool) (n : Nat) (e : Env) : List Nat → Option (Nat × Env)
  | [] => none
  | i :: r => match waitsL ops fin L i with
    | true => match runPI T ops n [i] e with
      | some e' => some (i, e')
      | none => pickV T ops fin L n e r
    | false => pickV T ops fin L n e r
theorem pickV_spec {L : List Bool} {is : List Nat} {i : Nat} : pickV T ops fin L n e is = some (i, e') → runPI T ops n [i] e = some e' := by
  induction is with
  | nil => intro h; cases h
  | cons j r ih =>
    intro h
    unfold pickV at h
    split at h
    · split at h
      · rename_i e1 he
        simp only [Option.some.injEq, Prod.mk.injEq] at h
        obtain ⟨rfl, rfl⟩ := h
        exact he
      · exact ih h
    · exact ih h
inductive Got where
  | no
  | go (i : Nat) (is : List Nat) (e : Env)
def runH (T : Ty) (ops : Array Oper) (fin : List Nat) (n : Nat) : Nat → List Bool → Env → Got
  | 0, _, _ => .no
  | k + 1, L, e => match pickV T ops fin L n e (rdyL ops L) with
    | some (i, e') => match runH T ops fin n k (L.set i true) e' with
      | .no => .go i [] e'
      | .go j js e2 => .go i (j :: js) e2
    | none => .no
theorem runPI_step {i : Nat} {is : List Nat} {e1 : Env} (h1 : runPI T ops n [i] e = some e1) : runPI T ops n (i :: is) e = runPI T ops n is e1 := by
  simp only [runPI] at h1 ⊢
  cases ho : ops[i]? with
  | none => simp [ho] at h1
  | some o =>
    simp only [ho] at h1 ⊢
    cases hg : gd ops e o with
    | none => simp [hg] at h1
    | some b =>
      simp only [hg] at h1 ⊢
      cases b with
      | true =>
        simp only at h1 ⊢
        cases hv : pv T e o.op with
        | none => simp [hv] at h1
        | some v =>
          simp only [hv] at h1 ⊢
          cases he : putE n o.dst v e with
          | none => simp [he] at h1
          | some e2 => simp only [he, Option.some.injEq] at h1 ⊢; subst h1; rfl
      | false =>
        simp only at h1 ⊢
        cases he : putE n o.dst undef e with
        | none => simp [he] at h1
        | some e2 => simp only [he, Option.some.injEq] at h1 ⊢; subst h1; rfl
theorem runH_spec : ∀ (k : Nat) (L : List Bool) (e : Env) (i : Nat) (is : List Nat) (e' : Env), runH T ops fin n k L e = .go i is e' → runPI T ops n (i :: is) e = some e'
  | 0, L, e, i, is, e', h => by cases h
  | k + 1, L, e, i, is, e', h => by
    unfold runH at h
    split at h
    · rename_i j e1 hp
      have h1 := pickV_spec hp
      split at h
      · cases h; exact h1
      · rename_i j2 js e2 h2
        cases h
        rw [runPI_step h1]
        exact runH_spec k _ e1 _ _ _ h2
    · cases h
theorem RH.vals (k : Nat) {i : Nat} {is : List Nat} (hT : T.Ok P) (hQ : PanicOk Q) (hz : runH T ops fin n k listed.toList e = .go i is e') (hB : (plainOps ops && takesB ops fin listed (i :: is)) = true) (hf : fuel' = fuel + (i :: is).length) (h : RH P ops Q J fin fuel (setAll listed (i :: is)) n e' D m) : RH P ops Q J fin fuel' listed n e D m := by
  subst hf
  simp only [Bool.and_eq_true] at hB
  exact runPI_sound hT hB.1 hQ _ listed e e' hB.2 (runH_spec k _ _ _ _ _ hz) h
def isLoad : Op → Bool
  | .load _ _ => true
  | _ => false
def isIdx : Op → Bool
  | .indexAddr _ _ _ => true
  | _ => false
def isLook : Op → Bool
  | .lookup _ _ _ _ => true
  | _ => false
def pickB (f : Op → Bool) (ops : Array Oper) (fin : List Nat) (L : List Bool) : List Nat → Option Nat
  | [] => none
  | i :: r => match ops[i]? with
    | some o => match f o.op with
      | true => match waitsL ops fin L i with
        | true => some i
        | false => pickB f ops fin L r
      | false => pickB f ops fin L r
    | none => pickB f ops fin L r
theorem RH.ld (hT : T.Ok P) (hQ : PanicOk Q) {i b j : Nat} {tb : TypeId} {cs : List Value} (_ : pickB isLoad ops fin listed.toList (rdyL ops listed.toList) = some i) (hB : (plainOps ops && takesB ops fin listed [i]) = true) (hi : ops[i]? = some ⟨d, .load t x, ty, pos, aft, g⟩) (hg : gd ops e ⟨d, .load t x, ty, pos, aft, g⟩ = some true) (hx : e.ev x = some (.pointer (some ⟨b, j, none⟩))) (ht : T.plain t = true)
    (hk : blkA b tb cs ∈ L) (hc : cs[j]? = some v) (hp : putE n d v e = some e') (h : RH P ops Q (JS m0 M0 X L) fin fuel (listed.setIfInBounds i true) n e' D m) : RH P ops Q (JS m0 M0 X L) fin (fuel + 1) listed n e D m :=
  RH.loadM hT hQ i hi hB hg hx ht hk hc hp h
theorem RH.ldS (hT : T.Ok P) (hQ : PanicOk Q) {i b j k : Nat} {tb : TypeId} {cs vs : List Value} (_ : pickB isLoad ops fin listed.toList (rdyL ops listed.toList) = some i) (hB : (plainOps ops && takesB ops fin listed [i]) = true) (hi : ops[i]? = some ⟨d, .load t x, ty, pos, aft, g⟩) (hg : gd ops e ⟨d, .load t x, ty, pos, aft, g⟩ = some true) (hx : e.ev x = some (.pointer (some ⟨b, j, none⟩))) (ht : T.aggN t = some k)
    (hk : blkA b tb cs ∈ L) (hv : (cs.drop j).take k = vs) (hl : vs.length = k) (hp : putE n d (.agg vs.toArray) e = some e') (h : RH P ops Q (JS m0 M0 X L) fin fuel (listed.setIfInBounds i true) n e' D m) : RH P ops Q (JS m0 M0 X L) fin (fuel + 1) listed n e D m :=
  RH.loadSegM hT hQ i hi hB hg hx ht hk hv hl hp h
theorem WP.drawA {id : Nat} (fin : List Nat) (hS : Tr m0 M0 X m H) (hm : P.follows .mixedOrders = true) (h : RH P l.toArray Q (JS m0 M0 X H) fin l.length (Array.replicate l.length false) n e D m) : WP P (.region id l.toArray true) Q n e D m :=
  WP.draw (JS m0 M0 X H) fin hm ⟨H, hS, AllIn.self H⟩ h
theorem RH.callS {i : Nat} {f : FuncId} {fo : Operand} {xs : Array Operand} {ts : Array TypeId} {fi ca : List Value} {vs al : List Value} {Post : Value → List Asn → Prop} (hS : Tr m0 M0 X m H) (hc : DoS P f al Pre Post) (_ : rdyL ops listed.toList = [i]) (hr : Region.ready .any ops listed = [i]) (hi : ops[i]? = some ⟨d, .call ⟨.value fo, xs, ts⟩, ty, pos, aft, g⟩)
    (hg : gd ops e ⟨d, .call ⟨.value fo, xs, ts⟩, ty, pos, aft, g⟩ = some true)
    (hfo : e.ev fo = some (.func (.func f) fi.toArray ca.toArray)) (hxs : e.evs xs.toList = some vs) (has : fi ++ vs ++ ca = al) (hs : Sels Pre H F)
    (h : ∀ v m' H', Post v H' → Tr m0 M0 X m' (H' ++ F) → AllIn (H' ++ F) L ∧ ∃ e', putE n d v e = some e' ∧ RH P ops Q (JS m0 M0 X L) fin fuel (listed.setIfInBounds i true) n e' D m') : RH P ops Q (JS m0 M0 X L) fin (fuel + 1) listed n e D m :=
  RH.only i hi (by simpa using hr) fun _ => RL.callM hS hc hg hfo hxs has hs fun v m' H' h1 h2 => by
    obtain ⟨hA, e', hp, hk⟩ := h v m' H' h1 h2
    exact ⟨e', hp, RL.N1 (RH.contM h2 hA hk)⟩
theorem RH.stop (hr : (Region.ready .any ops listed).isEmpty = true) (h : QN Q .normal n e D m) : RH P ops Q J fin fuel listed n e D m := RH.done hr fun _ => h
end
abbrev Pur (P : Program) (f : FuncId) (args : List Value) (Pre : List Asn) (u : Value) : Prop := DoS P f args Pre fun v H => v = u ∧ H = []
section
variable {P : Program} {T : Ty} {ops : Array Oper} {Q : Exit → Act → World → Prop} {l l' rest : List Oper} {n : Nat} {e e' : Env} {D : Fr} {ds : List Deferred} {m0 m : World} {M0 X : List Nat} {H H' F Pre L : List Asn}
  {d : Option Tmp} {x y : Operand} {t ty : TypeId} {pos : String} {aft : Array Edge} {g : Option (Nat × Bool)} {u : Value} {r : Row} {J : World → Prop} {fin : List Nat} {fuel fuel' : Nat} {listed listed' : Array Bool}
theorem RL.callU {f : FuncId} {fo : Operand} {xs : Array Operand} {ts : Array TypeId} {fi ca : List Value} {vs al : List Value} (hS : Tr m0 M0 X m H) (hc : Pur P f al Pre u)
    (hg : gd ops e ⟨d, .call ⟨.value fo, xs, ts⟩, ty, pos, aft, g⟩ = some true)
    (hfo : e.ev fo = some (.func (.func f) fi.toArray ca.toArray)) (hxs : e.evs xs.toList = some vs) (has : fi ++ vs ++ ca = al) (hs : Sels Pre H H) (hp : putE n d u e = some e')
    (h : ∀ m', Tr m0 M0 X m' H → RL P ops Q rest n e' D m') : RL P ops Q (⟨d, .call ⟨.value fo, xs, ts⟩, ty, pos, aft, g⟩ :: rest) n e D m :=
  RL.callM hS hc hg hfo hxs has hs fun v m' H' h1 h2 => by
    obtain ⟨rfl, rfl⟩ := h1
    exact ⟨e', hp, h m' h2⟩
theorem RH.callU {i : Nat} {f : FuncId} {fo : Operand} {xs : Array Operand} {ts : Array TypeId} {fi ca : List Value} {vs al : List Value} (hS : Tr m0 M0 X m H) (hc : Pur P f al Pre u) (_ : rdyL ops listed.toList = [i]) (hr : Region.ready .any ops listed = [i]) (hi : ops[i]? = some ⟨d, .call ⟨.value fo, xs, ts⟩, ty, pos, aft, g⟩)
    (hg : gd ops e ⟨d, .call ⟨.value fo, xs, ts⟩, ty, pos, aft, g⟩ = some true)
    (hfo : e.ev fo = some (.func (.func f) fi.toArray ca.toArray)) (hxs : e.evs xs.toList = some vs) (has : fi ++ vs ++ ca = al) (hs : Sels Pre H H) (hL : AllIn H L) (hp : putE n d u e = some e')
    (h : ∀ m', Tr m0 M0 X m' H → RH P ops Q (JS m0 M0 X L) fin fuel (listed.setIfInBounds i true) n e' D m') : RH P ops Q (JS m0 M0 X L) fin (fuel + 1) listed n e D m :=
  RH.callS hS hc ‹_› hr hi hg hfo hxs has hs fun v m' H' h1 h2 => by
    obtain ⟨rfl, rfl⟩ := h1
    exact ⟨hL, e', hp, h m' h2⟩
def isEff : Op → Bool
  | .store _ _ _ => true
  | .mapUpdate _ _ _ _ => true
  | .call ⟨.builtin .append, _, _⟩ => true
  | .call ⟨.builtin .copy, _, _⟩ => true
  | .call ⟨.builtin .delete, _, _⟩ => true
  | .call ⟨.builtin .clear, _, _⟩ => true
  | _ => false
def effs (l : List Oper) : List Nat := (List.range l.length).filter fun i => match l[i]? with
  | some o => isEff o.op
  | none => false
theorem WP.drawL {id : Nat} (L : List Asn) (hS : Tr m0 M0 X m H) (hL : AllIn H L) (_ : effs l = fin) (hm : P.follows .mixedOrders = true) (h : RH P l.toArray (Ev.calm Q) (JS m0 M0 X L) fin l.length (Array.replicate l.length false) n e D m) : WP P (.region id l.toArray true) Q n e D m := WP.calm (WP.draw (JS m0 M0 X L) fin hm ⟨H, hS, hL⟩ h)
theorem RH.one {i : Nat} {o : Oper} (_ : rdyL ops listed.toList = [i]) (hr : Region.ready .any ops listed = [i]) (hi : ops[i]? = some o) (h : RL P ops (Exit.then (onlyK D.ro P ops Q J fin i fuel (listed.setIfInBounds i true)) Q) [o] n e D m) : RH P ops Q J fin (fuel + 1) listed n e D m := RH.only i hi (by simpa using hr) fun _ => h
theorem WP.drawZ {id : Nat} (hS : Tr m0 M0 X m H) (_ : effs l = fin) (hm : P.follows .mixedOrders = true) (h : RH P l.toArray (Ev.calm Q) (JS m0 M0 X H) fin l.length (Array.replicate l.length false) n e D m) : WP P (.region id l.toArray true) Q n e D m := WP.calm (WP.drawA fin hS hm h)
end
def exA (S : List Nat) (Pr : List Asn → Prop) : Asn where
  own := S
  P := fun m M => ∃ L, Pr L ∧ ofps L = S ∧ ∀ A ∈ L, A.P m M
  lt := fun ⟨L, _, h, hA⟩ k hk => by
    subst h
    obtain ⟨A, hm, hk⟩ := mem_ofps.1 hk
    exact A.lt (hA A hm) k hk
  keep := fun ⟨L, h0, h, hA⟩ hE hn hN hM => ⟨L, h0, h, fun A hm => A.keep (hA A hm) hE (fun k hk => hn k (h ▸ mem_ofps.2 ⟨A, hm, hk⟩)) hN hM⟩
section
variable {m0 m : World} {M0 X : List Nat} {H L : List Asn} {S : List Nat} {Pr Pr' : List Asn → Prop}
theorem Tr.open (h : Tr m0 M0 X m (exA S Pr :: H)) : ∃ L, Pr L ∧ Tr m0 M0 X m (L ++ H) := by
  obtain ⟨L, h1, h2, h3⟩ : (exA S Pr).P m (ofps (exA S Pr :: H) ++ X) := h.head
  have e : ofps (exA S Pr :: H) = ofps (L ++ H) := by rw [ofps_cons, ofps_append, h2]; rfl
  exact ⟨L, h1, ⟨fun A hA => by
    rw [← e]
    rcases List.mem_append.1 hA with hA | hA
    · exact h3 A hA
    · exact h.hold.all A (zO _ hA), e ▸ h.hold.nd, e ▸ h.hold.out⟩, h.ext, e ▸ h.fp, h.xlt, h.mx⟩
theorem Tr.close (h : Tr m0 M0 X m (L ++ H)) (hp : Pr L) : Tr m0 M0 X m (exA (ofps L) Pr :: H) := by
  have e : ofps (exA (ofps L) Pr :: H) = ofps (L ++ H) := by rw [ofps_cons, ofps_append]; rfl
  exact ⟨⟨fun A hA => by
    rw [e]
    rcases List.mem_cons.1 hA with rfl | hA
    · exact ⟨L, hp, rfl, fun B hB => h.hold.all B (List.mem_append_left _ hB)⟩
    · exact h.hold.all A (List.mem_append_right _ hA), e ▸ h.hold.nd, e ▸ h.hold.out⟩, h.ext, e ▸ h.fp, h.xlt, h.mx⟩
end
section
variable {P : Program} {T : Ty} {ops : Array Oper} {Q : Exit → Act → World → Prop} {l l' rest : List Oper} {n : Nat} {e e' : Env} {D : Fr} {ds : List Deferred} {m0 m : World} {M0 X : List Nat} {H H' F Pre L : List Asn}
  {d : Option Tmp} {x y : Operand} {t ty te : TypeId} {pos : String} {aft : Array Edge} {g : Option (Nat × Bool)} {v : Value} {r rt : Row} {J : World → Prop} {fin : List Nat} {fuel fuel' : Nat} {listed listed' : Array Bool} {ad : Addr} {j sz nn n' c cap : Nat} {xs : List Value} {S : List Nat} {α : Type}
theorem Tr.ownSl (h : Tr m0 M0 X m H) (hm : ownA S t sz v nn xs ∈ H) : Sl m [] sz v xs := Own.sl (show Own m S t sz v nn xs from h.mem hm) (by simp)
theorem Tr.ownAt (h : Tr m0 M0 X m H) (hm : ownA S t sz v nn xs ∈ H) (hn : 0 < nn) : ∃ g c, v = .slice (some ⟨g, 0, none⟩) nn c ∧ S = [g] ∧ nn ≤ c ∧ c ≤ maxLen := by
  obtain ⟨g, cap, cur, h1, h2, h3, h4, h5, h6, h7⟩ := Own.at_ (show Own m S t sz v nn xs from h.mem hm) hn
  exact ⟨g, cap, h1, h7, h3, h4⟩
theorem Sl.cellE (hR : Sl m [] sz (.slice (some ad) nn c) xs) (hc : xs[j]? = some v) (_ : 0 < sz) : m.cell? (ad.add j) = some v := by
  have hl := hR.len
  have hj := (List.getElem?_eq_some_iff.1 hc).1
  have hn : 0 < nn := by
    rcases Nat.eq_zero_or_pos nn with h | h
    · subst h; omega
    · exact h
  obtain ⟨a, ha, _, h2⟩ := hR.addr hn
  cases ha
  exact h2 j v hc
theorem RL.ldE (hT : T.Ok P) (hR : Sl m [] sz (.slice (some ad) nn c) xs) (hc : xs[j * sz]? = some v) (hsz : r.size = sz) (hpos : Nat.blt 0 sz = true) (hg : gd ops e ⟨d, .load t x, ty, pos, aft, g⟩ = some true) (hx : e.ev x = some (.pointer (some (ad.add (j * r.size))))) (ht : T.plain t = true)
    (hp : putE n d v e = some e') (h : RL P ops Q rest n e' D m) : RL P ops Q (⟨d, .load t x, ty, pos, aft, g⟩ :: rest) n e D m := by
  subst hsz
  exact RL.load hT hg hx ht (hR.cellE hc (by simpa using hpos)) hp h
theorem flat_at (enc : α → List Value) (hl : ∀ a, (enc a).length = sz) : ∀ (L : List α) (j : Nat) (a : α), L[j]? = some a → ∀ i, i < sz → (L.flatMap enc)[j * sz + i]? = (enc a)[i]?
  | [], j, a, h, i, hi => by simp at h
  | b :: L, 0, a, h, i, hi => by
    simp only [List.getElem?_cons_zero, Option.some.injEq] at h
    subst h
    rw [List.flatMap_cons, Nat.zero_mul, Nat.zero_add, List.getElem?_append_left (by rw [hl]; exact hi)]
  | b :: L, j + 1, a, h, i, hi => by
    have ih := flat_at enc hl L j a (by simpa using h) i hi
    rw [List.flatMap_cons, List.getElem?_append_right (by rw [hl, Nat.succ_mul]; omega), hl, ← ih]
    congr 1
    rw [Nat.succ_mul]; omega
theorem Sl.aggE (enc : α → List Value) (hl : ∀ a, (enc a).length = sz) {L : List α} {a : α} (hR : Sl m [] sz (.slice (some ad) nn c) (L.flatMap enc)) (hj : L[j]? = some a) : ∀ i u, (enc a)[i]? = some u → m.cell? ((ad.add (j * sz)).add i) = some u := by
  intro i u hu
  have hi := (List.getElem?_eq_some_iff.1 hu).1
  rw [hl] at hi
  rw [add_add]
  exact hR.cellE (by rw [flat_at enc hl L j a hj i hi, hu]) (by omega)
theorem RL.ldEA (hT : T.Ok P) (enc : α → List Value) (hl : ∀ a, (enc a).length = sz) {L : List α} {a : α} (hR : Sl m [] sz (.slice (some ad) nn c) (L.flatMap enc)) (hj : L[j]? = some a) (hsz : r.size = sz) (hg : gd ops e ⟨d, .load t x, ty, pos, aft, g⟩ = some true) (hx : e.ev x = some (.pointer (some (ad.add (j * r.size))))) (ht : T.aggN t = some sz)
    (hp : putE n d (.agg (enc a).toArray) e = some e') (h : RL P ops Q rest n e' D m) : RL P ops Q (⟨d, .load t x, ty, pos, aft, g⟩ :: rest) n e D m := by
  subst hsz
  exact RL.loadAgg hT (enc a) hg hx (by rw [hl]; exact ht) (hR.aggE enc hl hj) hp h
theorem RH.ldE (hT : T.Ok P) (hQ : PanicOk Q) {i : Nat} (hR : ∀ m', J m' → Sl m' [] sz (.slice (some ad) nn c) xs) (hc : xs[j * sz]? = some v) (hsz : r.size = sz) (hpos : Nat.blt 0 sz = true) (_ : pickB isLoad ops fin listed.toList (rdyL ops listed.toList) = some i) (hB : (plainOps ops && takesB ops fin listed [i]) = true) (hi : ops[i]? = some ⟨d, .load t x, ty, pos, aft, g⟩) (hg : gd ops e ⟨d, .load t x, ty, pos, aft, g⟩ = some true) (hx : e.ev x = some (.pointer (some (ad.add (j * r.size))))) (ht : T.plain t = true)
    (hp : putE n d v e = some e') (h : RH P ops Q J fin fuel (listed.setIfInBounds i true) n e' D m) : RH P ops Q J fin (fuel + 1) listed n e D m := by
  subst hsz
  exact RH.load hT hQ i (fun m' hm' => (hR m' hm').cellE hc (by simpa using hpos)) hi hB hg hx ht hp h
theorem RH.ldEA (hT : T.Ok P) (hQ : PanicOk Q) {i : Nat} (enc : α → List Value) (hl : ∀ a, (enc a).length = sz) {L : List α} {a : α} (hR : ∀ m', J m' → Sl m' [] sz (.slice (some ad) nn c) (L.flatMap enc)) (hj : L[j]? = some a) (hsz : r.size = sz) (_ : pickB isLoad ops fin listed.toList (rdyL ops listed.toList) = some i) (hB : (plainOps ops && takesB ops fin listed [i]) = true) (hi : ops[i]? = some ⟨d, .load t x, ty, pos, aft, g⟩) (hg : gd ops e ⟨d, .load t x, ty, pos, aft, g⟩ = some true) (hx : e.ev x = some (.pointer (some (ad.add (j * r.size))))) (ht : T.aggN t = some sz)
    (hp : putE n d (.agg (enc a).toArray) e = some e') (h : RH P ops Q J fin fuel (listed.setIfInBounds i true) n e' D m) : RH P ops Q J fin (fuel + 1) listed n e D m := by
  subst hsz
  exact RH.loadAgg hT hQ i (enc a) (fun m' hm' => (hR m' hm').aggE enc hl hj) hi hB hg hx (by rw [hl]; exact ht) hp h
theorem RH.ix (hT : T.Ok P) (hQ : PanicOk Q) {i : Nat} {len k : Nat} {z : Int} {kk : IntKind} (_ : pickB isIdx ops fin listed.toList (rdyL ops listed.toList) = some i) (hB : (plainOps ops && takesB ops fin listed [i]) = true)
    (hi : ops[i]? = some ⟨d, .indexAddr t x y, ty, pos, aft, g⟩) (hrt : T.row t = some rt) (hk : rt.k = .sli te) (hr : T.row te = some r)
    (hg : gd ops e ⟨d, .indexAddr t x y, ty, pos, aft, g⟩ = some true) (hx : e.ev x = some (.slice (some ad) len cap)) (hy : e.ev y = some (.int kk z)) (hj : z = (k : Int)) (hlt : k < len)
    (hp : putE n d (.pointer (some (ad.add (k * r.size)))) e = some e') (h : RH P ops Q J fin fuel (listed.setIfInBounds i true) n e' D m) : RH P ops Q J fin (fuel + 1) listed n e D m :=
  RH.indexAddr hT hQ i hi hB hrt hk hr hg hx hy hj hlt hp h
theorem JS.ownSl (hm : ownA S t sz v nn xs ∈ L) : ∀ m', JS m0 M0 X L m' → Sl m' [] sz v xs := fun _ ⟨_, hS, hL⟩ => hS.ownSl (hL.mem hm)
end
def exitQ {X : Type} (E : X → Env) (J : X → World → Prop) (n : Nat) (D : Fr) (id : Nat) (Q : Exit → Act → World → Prop) : Exit → Act → World → Prop
  | .exit i, a, w => if i = id then ∃ x m, Fits n (E x) D a ∧ Sim m w ∧ J x m else Q (.exit i) a w
  | ex, a, w => Q ex a w
theorem WP.loopX {X : Type} {P : Program} {Q : Exit → Act → World → Prop} {c : Code} {n : Nat} {e : Env} {D : Fr} {m : World} (E : X → Env) (I J : X → World → Prop) (μ : X → Nat) (x0 : X) (id : Nat) (hs : Sub (E x0) e) (h0 : I x0 m)
    (round : ∀ x m, I x m → WP P c (Exit.then (loopQ E I μ n D x) (exitQ E J n D id Q)) n (E x) D m) (hx : ∀ x m, J x m → QN Q (.exit id) n (E x) D m) : WP P (.loop c) Q n e D m := fun a w hf hw =>
  wpIn_mono (WP.loop E I μ x0 hs h0 round a w hf hw) fun ex a1 w1 hq => by
    cases ex with
    | exit i =>
      simp only [exitQ] at hq
      split at hq
      · rename_i hi
        subst hi
        obtain ⟨x, m1, h1, h2, h3⟩ := hq
        exact hx x m1 h3 a1 w1 h1 h2
      · exact hq
    | normal => exact hq
    | ret => exact hq
    | goto t => exact hq
    | panic ch => exact hq
    | outgrown => exact hq
theorem QN.exitJ {X : Type} {Q : Exit → Act → World → Prop} {n : Nat} {e : Env} {D : Fr} {m : World} {E : X → Env} {J : X → World → Prop} {id : Nat} (x : X) (hs : Sub (E x) e) (h : J x m) : QN (exitQ E J n D id Q) (.exit id) n e D m := fun a w hf hw => by
  simp only [exitQ, if_true]
  exact ⟨x, m, hf.sub hs, hw, h⟩
theorem RL.tail {X : Type} {P : Program} {ops : Array Oper} {Q1 : Exit → Act → World → Prop} {l : List Oper} {n : Nat} {e : Env} {D : Fr} {m : World} (E : X → Env) (I : X → World → Prop) {K1 : Act → World → Prop} (tail : ∀ x m, I x m → QN Q1 .normal n (E x) D m)
    (main : (∀ x m e, Sub (E x) e → I x m → QN Q1 .normal n e D m) → RL P ops (Exit.then K1 Q1) l n e D m) : RL P ops (Exit.then K1 Q1) l n e D m := main fun x m _ hs h => (tail x m h).sub hs
structure Hid (q : Prop) : Prop where
  out : q
theorem go {p q : Prop} (h : q) (t : Hid q → p := by
  intro hZ
  repeat (first
    | refine RL.autoP T_okN rfl rfl ?_
    | refine RL.autoK 1 T_okN rfl rfl ?_
    | refine RL.loadM T_ok hS rfl rfl rfl (by repeat (first | with_reducible exact zS .. | with_reducible apply zO | exact hN | exact hN' | exact hN2)) (by rfl) (by rfl) ?_
    | refine RL.lsM T_ok hS rfl rfl rfl (by repeat (first | with_reducible exact zS .. | with_reducible apply zO | exact hN | exact hN' | exact hN2)) (by rfl) (by rfl) (by rfl) ?_
    | refine RH.vals 60 T_okN PanicOk.calm rfl (by kernel_rfl) rfl ?_
    | refine RH.vals 1 T_okN PanicOk.calm rfl (by kernel_rfl) rfl ?_
    | refine RH.ld T_ok PanicOk.calm rfl (by kernel_rfl) rfl rfl rfl rfl (by repeat (first | with_reducible exact zS .. | with_reducible apply zO | exact hN | exact hN' | exact hN2)) (by rfl) (by rfl) ?_
    | refine RH.ldS T_ok PanicOk.calm rfl (by kernel_rfl) rfl rfl rfl rfl (by repeat (first | with_reducible exact zS .. | with_reducible apply zO | exact hN | exact hN' | exact hN2)) (by rfl) (by rfl) (by rfl) ?_
    | refine RL.indexAddr T_ok rfl rfl rfl rfl rfl rfl rfl (by omega) rfl ?_
    | refine RH.ix T_ok PanicOk.calm rfl (by kernel_rfl) rfl rfl rfl rfl rfl rfl rfl rfl (by omega) rfl ?_
    | (refine RL.N1 ?_; (with_reducible repeat (first | refine QN.B1 ?_ | refine QN.N1 ?_)))
    | (refine RH.stop (by rfl) (QN.calm ?_); (with_reducible repeat (first | refine QN.B1 ?_ | refine QN.N1 ?_)))
    | with_reducible refine WP.S1 ?_ | with_reducible refine WP.B1 ?_ | with_reducible refine WP.R1 ?_ | with_reducible refine WP.drawZ hS rfl (by kernel_rfl) ?_
    | (refine WP.skip ?_; (with_reducible repeat (first | refine QN.B1 ?_ | refine QN.N1 ?_))) | refine WP.condT rfl ?_ | refine WP.condF rfl ?_
    | (refine WP.ret ?_; (with_reducible repeat (first | refine QN.tr ?_ | refine QN.br ?_)))
    | with_reducible refine QN.B1 ?_ | with_reducible refine QN.N1 ?_)
  exact hZ.out) : p := t ⟨h⟩
end Go.Ev
end
section
namespace Go.Ev
open Go.RowKit
section
variable {P : Program} {fn : Func} {post : Ending → World → Prop} {T : Ty} {n : Nat} {e : Env} {m0 m : World} {M0 X : List Nat} {H : List Asn} {t u : Tmp} {ty tb : TypeId} {b : Nat} {cs : List Value} {v : Value}
theorem Res.celT (hT : T.Ok P) (hS : Tr m0 M0 X m H) (hr : fn.results = #[.cell t ty, .tmp u]) (ht : e.get t = some (.pointer (some ⟨b, 0, none⟩)))
    (hty : T.aggN ty = some cs.length) (hu : e.get u = some v) (hB : blkA b tb cs ∈ H) {D : Fr} : Res P fn n e D m (.tuple #[.agg cs.toArray, v]) := by
  intro a w hf hs
  obtain ⟨r, hr', ha, hsz⟩ := Ty.aggN_spec hty
  have h1 := (hT.row hr').run_isAgg (TyK.known_of_agg ha) w
  rw [ha] at h1
  have h2 := (hT.row hr').run_size w
  rw [hsz] at h2
  have h3 := run_loadCells_list (P := P) w ⟨b, 0, none⟩ cs (fun j x hx => (hs.cell _).trans (by rw [add_block, Nat.zero_add]; exact Blk.cell (hS.mem hB) j hx))
  simp [results, hr, hf.get t _ ht, hf.get u _ hu, asAddr, loadVar, h1, h2, h3]
theorem Res.cel (hT : T.Ok P) (hS : Tr m0 M0 X m H) (hr : fn.results = #[.cell t ty]) (ht : e.get t = some (.pointer (some ⟨b, 0, none⟩)))
    (hty : T.aggN ty = some cs.length) (hB : blkA b tb cs ∈ H) {D : Fr} : Res P fn n e D m (.agg cs.toArray) := by
  intro a w hf hs
  obtain ⟨r, hr', ha, hsz⟩ := Ty.aggN_spec hty
  have h1 := (hT.row hr').run_isAgg (TyK.known_of_agg ha) w
  rw [ha] at h1
  have h2 := (hT.row hr').run_size w
  rw [hsz] at h2
  have h3 := run_loadCells_list (P := P) w ⟨b, 0, none⟩ cs (fun j x hx => (hs.cell _).trans (by rw [add_block, Nat.zero_add]; exact Blk.cell (hS.mem hB) j hx))
  simp [results, hr, hf.get t _ ht, asAddr, loadVar, h1, h2, h3]
theorem QN.retV (h : Res P fn n e ⟨[], none⟩ m v) (hp : post (.returned v) m) : QN (bodyQ P fn post) .ret n e ⟨[], none⟩ m :=
  fun a w hf hs => ⟨hf.defers, v, h a w hf hs, m, hs, hp⟩
end
section
variable {P : Program} {ops : Array Oper} {Q : Exit → Act → World → Prop} {rest : List Oper} {n : Nat} {e e' : Env} {D : Fr} {m : World} {d : Option Tmp} {ty : TypeId} {pos : String} {aft : Array Edge} {g : Option (Nat × Bool)} {v : Value}
theorem RL.ext {f : FuncId} {fn : Func} {fo : Operand} {xs : Array Operand} {ts : Array TypeId} {vs : List Value} {ex : Array Value → Sem Value} (hf : P.funcs[f]? = some fn) (hname : (fn.name == "runtime.NumGoroutine") = false)
    (hb : fn.body.isNone = true) (hn : Extern.findNext fn = none) (hex : Extern.find fn = some ex) (hg : gd ops e ⟨d, .call ⟨.value fo, xs, ts⟩, ty, pos, aft, g⟩ = some true) (hfo : e.ev fo = some (.func (.func f) #[] #[])) (hxs : e.evs xs.toList = some vs)
    (hr : ∀ w, (ex vs.toArray).run P w = .ok v w) (hp : putE n d v e = some e') (h : RL P ops Q rest n e' D m) : RL P ops Q (⟨d, .call ⟨.value fo, xs, ts⟩, ty, pos, aft, g⟩ :: rest) n e D m := by
  refine RL.value v hg (fun a w hfi hs => ?_) hp h
  have hcall := run_callFunc_extern hf hname hb hn hex vs.toArray w
  rw [hr] at hcall
  have hargs : xs.map a.eval = vs.toArray := Array.ext' (by rw [Array.toList_map]; simpa using hfi.evs hxs)
  simp only [Result.andThen_ok] at hcall
  simp [execOp, resolve, hfi.ev hfo, Deferred.ofValue, invoke, hargs, hcall]
end
section
variable {P : Program} {Q : Exit → Act → World → Prop} {l : List Oper} {n : Nat} {e : Env} {D : Fr} {m0 m : World} {M0 X : List Nat} {H : List Asn}
theorem WP.drawJ {id : Nat} (L : List Asn) (hS : Tr m0 M0 X m H) (hL : AllIn H L) (hm : P.follows .mixedOrders = true) (h : RH P l.toArray (Ev.calm Q) (JS m0 M0 X L) [] l.length (Array.replicate l.length false) n e D m) : WP P (.region id l.toArray true) Q n e D m :=
  WP.calm (WP.draw (JS m0 M0 X L) [] hm ⟨H, hS, hL⟩ h)
theorem QN.exitRet {X : Type} {n' : Nat} {D' : Fr} {E : X → Env} {J : X → World → Prop} {id : Nat} (h : QN Q .ret n e D m) : QN (exitQ E J n' D' id Q) .ret n e D m := h
end
end Go.Ev
end
section
namespace Go.Ev
open Go.RowKit
theorem run_getM {P : Program} {w : World} {r : Nat} {l : Array MapEntry} {c : Nat} (h : w.heap[r]? = some (.map l c)) : (getObj r).run P w = .ok (.map l c) w := by simp [getObj, Sem.run, h]
theorem run_setM {P : Program} {w : World} {r : Nat} {l : Array MapEntry} {c : Nat} (o : Obj) (h : w.heap[r]? = some (.map l c)) : (setObj r o).run P w = .ok () { w with heap := w.heap.setIfInBounds r o } := by simp [setObj, Sem.run, h]
structure KeyL (P : Program) (kt : TypeId) {κ : Type} [DecidableEq κ] (enc : κ → Value) (Lv : World → κ → Prop) : Prop where
  desc : ∃ ds, P.underlying kt = some ds ∧ ((∀ a b, Instr.sameNow ds (enc a) (enc b) = some (decide (a = b))) ∨ (∀ a b, Instr.sameNow ds (enc a) (enc b) = none))
  eq : ∀ a b w, Lv w a → Lv w b → (Op.equal kt (enc a) (enc b)).run P w = .ok (decide (a = b)) w
  chk : ∀ z a w, (Instr.checkKey z 10000 kt (enc a)).run P w = .ok () w
  bits : ∀ a, Instr.sameBits 10000 (enc a) (enc a) = true
def AnyL {κ : Type} (_ : World) (_ : κ) : Prop := True
abbrev KeyT (P : Program) (kt : TypeId) {κ : Type} [DecidableEq κ] (enc : κ → Value) : Prop := KeyL P kt enc AnyL
section
variable {κ : Type} [DecidableEq κ]
def mget (es : List (κ × Value)) (k : κ) : Option Value := match es with
  | [] => none
  | p :: r => if p.1 = k then some p.2 else mget r k
def mset (es : List (κ × Value)) (k : κ) (v : Value) : List (κ × Value) := match es with
  | [] => [(k, v)]
  | p :: r => if p.1 = k then (k, v) :: r else p :: mset r k v
def mdel (es : List (κ × Value)) (k : κ) : List (κ × Value) := match es with
  | [] => []
  | p :: r => if p.1 = k then r else p :: mdel r k
theorem mget_mset (k : κ) (v : Value) (k' : κ) : ∀ es : List (κ × Value), mget (mset es k v) k' = if k = k' then some v else mget es k'
  | [] => by simp [mset, mget]
  | p :: r => by
    have ih := mget_mset k v k' r
    unfold mset
    split
    · rename_i h
      by_cases hk : k = k'
      · simp [mget, hk]
      · simp [mget, hk, h ▸ hk]
    · rename_i h
      by_cases hp : p.1 = k'
      · have : k ≠ k' := fun hh => h (hp.trans hh.symm)
        simp [mget, hp, this]
      · simp [mget, hp, ih]
theorem mget_none {es : List (κ × Value)} {k : κ} : mget es k = none ↔ k ∉ es.map Prod.fst := by
  induction es with
  | nil => simp [mget]
  | cons p r ih =>
    unfold mget
    split
    · rename_i h; simp [h]
    · rename_i h; simp [ih, Ne.symm h]
theorem mset_new {es : List (κ × Value)} {k : κ} (v : Value) (h : k ∉ es.map Prod.fst) : mset es k v = es ++ [(k, v)] := by
  induction es with
  | nil => rfl
  | cons p r ih =>
    simp only [List.map_cons, List.mem_cons, not_or] at h
    simp [mset, Ne.symm h.1, ih h.2]
theorem mset_keys (k : κ) (v : Value) : ∀ es : List (κ × Value), (mset es k v).map Prod.fst = if k ∈ es.map Prod.fst then es.map Prod.fst else es.map Prod.fst ++ [k]
  | [] => by simp [mset]
  | p :: r => by
    have ih := mset_keys k v r
    unfold mset
    split
    · rename_i h; simp [h]
    · rename_i h
      simp only [List.map_cons, ih, List.mem_cons, Ne.symm h, false_or]
      split <;> simp
theorem mset_nodup {es : List (κ × Value)} (h : (es.map Prod.fst).Nodup) (k : κ) (v : Value) : ((mset es k v).map Prod.fst).Nodup := by
  rw [mset_keys]
  split
  · exact h
  · rename_i hk
    exact List.nodup_append.2 ⟨h, by simp, fun a ha b hb => by
      simp only [List.mem_singleton] at hb
      subst hb
      exact fun hh => hk (hh ▸ ha)⟩
theorem mdel_sub {es : List (κ × Value)} (k : κ) : ∀ p ∈ mdel es k, p ∈ es := by
  induction es with
  | nil => simp [mdel]
  | cons q r ih =>
    intro p hp
    unfold mdel at hp
    split at hp
    · exact zO _ hp
    · rcases List.mem_cons.1 hp with rfl | hp
      · exact zS ..
      · exact zO _ (ih p hp)
theorem mdel_nodup {es : List (κ × Value)} (h : (es.map Prod.fst).Nodup) (k : κ) : ((mdel es k).map Prod.fst).Nodup := by
  induction es with
  | nil => exact h
  | cons q r ih =>
    simp only [List.map_cons, List.nodup_cons] at h
    unfold mdel
    split
    · exact h.2
    · simp only [List.map_cons, List.nodup_cons]
      refine ⟨fun hm => h.1 ?_, ih h.2⟩
      obtain ⟨p, hp, he⟩ := List.mem_map.1 hm
      exact List.mem_map.2 ⟨p, mdel_sub k p hp, he⟩
def EsOk (enc : κ → Value) (l : List MapEntry) (es : List (κ × Value)) : Prop := l.map (fun e => (e.key, e.val)) = es.map fun p => (enc p.1, p.2)
omit [DecidableEq κ] in
theorem EsOk.cons {enc : κ → Value} {e : MapEntry} {l : List MapEntry} {es : List (κ × Value)} (h : EsOk enc (e :: l) es) : ∃ k v r, es = (k, v) :: r ∧ e.key = enc k ∧ e.val = v ∧ EsOk enc l r := by
  unfold EsOk at h
  cases es with
  | nil => cases h
  | cons p r =>
    simp only [List.map_cons, List.cons.injEq, Prod.mk.injEq] at h
    exact ⟨p.1, p.2, r, rfl, h.1.1, h.1.2, h.2⟩
def mfind (k : κ) : List (κ × Value) → Nat → Option (Nat × Value)
  | [], _ => none
  | p :: r, i => if p.1 = k then some (i, p.2) else mfind k r (i + 1)
theorem mfind_none {k : κ} : ∀ {es : List (κ × Value)} {i : Nat}, mfind k es i = none → mget es k = none ∧ ∀ v, mset es k v = es ++ [(k, v)] ∧ mdel es k = es
  | [], _, _ => ⟨rfl, fun _ => ⟨rfl, rfl⟩⟩
  | p :: r, i, h => by
    unfold mfind at h
    split at h
    · cases h
    · rename_i hp
      obtain ⟨h1, h2⟩ := mfind_none h
      exact ⟨by simp [mget, hp, h1], fun v => ⟨by simp [mset, hp, (h2 v).1], by simp [mdel, hp, (h2 v).2]⟩⟩
theorem mfind_some {k : κ} : ∀ {es : List (κ × Value)} {i j : Nat} {v : Value}, mfind k es i = some (j, v) → mget es k = some v ∧ i ≤ j ∧ es[j - i]? = some (k, v) ∧ (∀ u, mset es k u = es.set (j - i) (k, u)) ∧ mdel es k = es.eraseIdx (j - i)
  | p :: r, i, j, v, h => by
    unfold mfind at h
    split at h
    · rename_i hp
      simp only [Option.some.injEq, Prod.mk.injEq] at h
      obtain ⟨rfl, rfl⟩ := h
      refine ⟨by simp [mget, hp], Nat.le_refl _, by simp [← hp], fun u => by simp [mset, hp], by simp [mdel, hp]⟩
    · rename_i hp
      obtain ⟨h1, h2, h3, h4, h5⟩ := mfind_some h
      have e : j - i = (j - (i + 1)) + 1 := by omega
      exact ⟨by simp [mget, hp, h1], by omega, by rw [e]; simpa using h3, fun u => by rw [e]; simp [mset, hp, h4 u], by rw [e]; simp [mdel, hp, h5]⟩
variable {P : Program} {kt : TypeId} {enc : κ → Value} {Lv : World → κ → Prop}
theorem run_findAsking (K : KeyL P kt enc Lv) (k : κ) (w : World) (hk0 : Lv w k) : ∀ (l : List MapEntry) (es : List (κ × Value)) (i : Nat), (∀ p ∈ es, Lv w p.1) → EsOk enc l es → (Instr.findAsking kt (enc k) l i).run P w = .ok (mfind k es i) w
  | [], es, i, _, h => by
    cases es with
    | nil => simp [Instr.findAsking, mfind]
    | cons p r => cases h
  | e :: l, es, i, hl, h => by
    obtain ⟨k', v, r, rfl, hk, hv, hr⟩ := h.cons
    have ih := run_findAsking K k w hk0 l r (i + 1) (fun p hp => hl p (zO _ hp)) hr
    have h0 := hl (k', v) (zS ..)
    unfold Instr.findAsking mfind
    simp only [Sem.run_bind, hk, K.eq _ _ _ hk0 h0, Result.andThen_ok, hv]
    by_cases hkk : k' = k
    · subst hkk; simp
    · rw [decide_eq_false (Ne.symm hkk)]; simp [hkk, ih]
theorem findNow_eq {ds : TypeDesc} (hd : ∀ a b, Instr.sameNow ds (enc a) (enc b) = some (decide (a = b))) (k : κ) : ∀ (l : List MapEntry) (es : List (κ × Value)) (i : Nat), EsOk enc l es → Instr.findNow ds (enc k) l i = some (mfind k es i)
  | [], es, i, h => by
    cases es with
    | nil => simp [Instr.findNow, mfind]
    | cons p r => cases h
  | e :: l, es, i, h => by
    obtain ⟨k', v, r, rfl, hk, hv, hr⟩ := h.cons
    have ih := findNow_eq hd k l r (i + 1) hr
    unfold Instr.findNow mfind
    rw [hk, hd, hv]
    by_cases hkk : k' = k
    · subst hkk; simp
    · rw [decide_eq_false (Ne.symm hkk)]; simp [hkk, ih]
theorem run_findKey {es : List (κ × Value)} (K : KeyL P kt enc Lv) (k : κ) (w : World) (hk0 : Lv w k) (hl : ∀ p ∈ es, Lv w p.1) {l : List MapEntry} (h : EsOk enc l es) : (Instr.findKey kt (enc k) l).run P w = .ok (mfind k es 0) w := by
  obtain ⟨ds, hd, hc⟩ := K.desc
  unfold Instr.findKey
  simp only [Sem.run_bind, run_underlying hd, Result.andThen_ok]
  rcases hc with hc | hc
  · rw [findNow_eq hc k l es 0 h]; simp
  · cases l with
    | nil =>
      cases es with
      | nil => simp [Instr.findNow, mfind]
      | cons p r => cases h
    | cons e l =>
      obtain ⟨k', v, r, rfl, hk, hv, hr⟩ := h.cons
      have h0 : Instr.findNow ds (enc k) (e :: l) 0 = none := by unfold Instr.findNow; rw [hk, hc]
      rw [h0]
      exact run_findAsking K k w hk0 _ _ 0 hl h
def MapIn (m : World) (r : Nat) (enc : κ → Value) (es : List (κ × Value)) : Prop :=
  ∃ (l : List MapEntry) (clock : Nat), m.heap[r]? = some (.map l.toArray clock) ∧ EsOk enc l es ∧ (es.map Prod.fst).Nodup ∧ (l.map (·.born)).Nodup ∧ ∀ e ∈ l, e.born < clock
def mapA (r : Nat) (enc : κ → Value) (es : List (κ × Value)) : Asn where
  own := [r]
  P := fun m _ => MapIn m r enc es
  lt := fun ⟨_, _, h, _⟩ k hk => by
    have : k = r := by simpa using hk
    subst this; exact (Array.getElem?_eq_some_iff.1 h).1
  keep := fun ⟨l, c, h, h2⟩ hE hn _ _ => ⟨l, c, (hE.far r (Array.getElem?_eq_some_iff.1 h).1 (hn r (by simp))).trans h, h2⟩
theorem run_lookup (K : KeyL P kt enc Lv) {t et : TypeId} {z : Value} (ht : P.underlying t = some (.map kt et)) (hz : ∀ w, (zeroValue et).run P w = .ok z w) {m w : World} {r : Nat} {es : List (κ × Value)} (hM : MapIn m r enc es) (hs : Sim m w) (k : κ) (hk0 : Lv w k) (hl : ∀ p ∈ es, Lv w p.1) (ok : Bool) :
    (Instr.lookup t (.map (some r)) (enc k) ok).run P w = .ok (if ok then .tuple #[(mget es k).getD z, .bool (mget es k).isSome] else (mget es k).getD z) w := by
  obtain ⟨l, c, hr, he, _⟩ := hM
  have hg : (getObj r).run P w = .ok (.map l.toArray c) w := run_getM (by rw [hs.heap]; exact hr)
  unfold Instr.lookup
  simp only [Sem.run_bind, run_underlying ht, Result.andThen_ok, hg, Sem.run_pure, K.chk, run_findKey K k w hk0 hl he]
  cases hf : mfind k es 0 with
  | none =>
    rw [(mfind_none hf).1]
    cases ok <;> simp [hz]
  | some p =>
    obtain ⟨j, v⟩ := p
    rw [(mfind_some hf).1]
    cases ok <;> simp
def setB (m : World) (b : Nat) (o : Obj) : World := { m with heap := m.heap.setIfInBounds b o }
theorem Chg.setB {m : World} {b : Nat} {o0 : Obj} (h : m.heap[b]? = some o0) (o : Obj) : Chg m b o (setB m b o) := by
  have hlt := (Array.getElem?_eq_some_iff.1 h).1
  refine ⟨rfl, rfl, rfl, ?_, fun k hk => ?_, ?_, dle.refl _⟩
  · simp [Ev.setB, hlt]
  · simp [Ev.setB, Ne.symm hk]
  · simp [Ev.setB]; omega
theorem Sim.setB {m w : World} (h : Sim m w) (b : Nat) (o : Obj) : Sim (setB m b o) (setB w b o) := ⟨by simp [Ev.setB, h.heap], h.os, h.output, h.tape, h.drawn⟩
theorem run_keyStays (K : KeyL P kt enc Lv) (k : κ) (w : World) : (Instr.keyThatStays (enc k) (enc k)).run P w = .ok (enc k) w := by simp [Instr.keyThatStays, K.bits]
omit [DecidableEq κ] in
theorem EsOk.set {l : List MapEntry} {es : List (κ × Value)} (h : EsOk enc l es) {j : Nat} {k : κ} {v0 v : Value} (hj : es[j]? = some (k, v0)) :
    EsOk enc (l.toArray.modify j fun e => { e with key := enc k, val := v }).toList (es.set j (k, v)) ∧ (l.toArray.modify j fun e => { e with key := enc k, val := v }).toList.map (·.born) = l.map (·.born) := by
  have hl : l.length = es.length := by have := congrArg List.length h; simpa using this
  have hlt : j < es.length := (List.getElem?_eq_some_iff.1 hj).1
  have e : (l.toArray.modify j fun e => { e with key := enc k, val := v }).toList = l.modify j fun e => { e with key := enc k, val := v } := by simp
  rw [e]
  constructor
  · unfold EsOk at h ⊢
    refine List.ext_getElem? fun i => ?_
    have hi := congrArg (fun z => z[i]?) h
    simp only [List.getElem?_map, List.getElem?_modify, List.getElem?_set] at hi ⊢
    by_cases hij : j = i
    · subst hij
      have hlt' : j < l.length := by omega
      simp [hlt, List.getElem?_eq_getElem hlt']
    · simp only [hij, if_false]
      cases hli : l[i]? <;> cases hei : es[i]? <;> simp_all
  · refine List.ext_getElem? fun i => ?_
    simp only [List.getElem?_map, List.getElem?_modify]
    cases l[i]? <;> simp <;> split <;> rfl
theorem run_mapUpdate (K : KeyL P kt enc Lv) {t et : TypeId} (ht : P.underlying t = some (.map kt et)) {m : World} {r : Nat} {es : List (κ × Value)} (hM : MapIn m r enc es) (k : κ) (v : Value) :
    ∃ m' o, Chg m r o m' ∧ MapIn m' r enc (mset es k v) ∧ ∀ w, Sim m w → Lv w k → (∀ p ∈ es, Lv w p.1) → ∃ w', (Instr.mapUpdate t (.map (some r)) (enc k) v).run P w = .ok () w' ∧ Sim m' w' := by
  obtain ⟨l, c, hr, he, hn, hb, hc⟩ := hM
  cases hf : mfind k es 0 with
  | none =>
    obtain ⟨h1, h2⟩ := mfind_none hf
    have h3 := mget_none.1 h1
    let o : Obj := .map (l ++ [(⟨enc k, v, c⟩ : MapEntry)]).toArray (c + 1)
    have hC := Chg.setB hr o
    refine ⟨setB m r o, o, hC, ⟨_, _, hC.here, ?_, ?_, ?_, ?_⟩, fun w hs hk0 hl0 => ⟨setB w r o, ?_, hs.setB r o⟩⟩
    · rw [(h2 v).1]; unfold EsOk at he ⊢; simp [he]
    · exact mset_nodup hn k v
    · rw [List.map_append]
      refine List.nodup_append.2 ⟨hb, by simp, fun a ha b hb' => ?_⟩
      obtain ⟨x, hx, rfl⟩ := List.mem_map.1 ha
      have := hc x hx
      simp at hb'
      omega
    · intro x hx
      rcases List.mem_append.1 hx with hx | hx
      · have := hc x hx; omega
      · simp at hx; subst hx; simp
    · have hw : w.heap[r]? = some (.map l.toArray c) := by rw [hs.heap]; exact hr
      unfold Instr.mapUpdate
      simp only [Sem.run_bind, run_underlying ht, Result.andThen_ok, run_getM hw, K.chk, run_findKey K k w hk0 hl0 he, hf, run_setM _ hw, Ev.setB]
      simp [o]
  | some p =>
    obtain ⟨j, v0⟩ := p
    obtain ⟨_, _, h3, h4, _⟩ := mfind_some hf
    simp only [Nat.sub_zero] at h3 h4
    let o : Obj := .map (l.toArray.modify j fun e => { e with key := enc k, val := v }) c
    have hC := Chg.setB hr o
    obtain ⟨s1, s2⟩ := he.set (v := v) h3
    have hl : l.length = es.length := by have := congrArg List.length he; simpa using this
    have hlt : j < es.length := (List.getElem?_eq_some_iff.1 h3).1
    have hlj : l[j]? = some l[j] := List.getElem?_eq_getElem (by omega)
    have hkj : (l[j]'(by omega)).key = enc k := by
      have := congrArg (fun z => z[j]?) he
      simp [h3, hlj] at this
      exact this.1
    refine ⟨setB m r o, o, hC, ⟨_, _, by simpa [o] using hC.here, by rw [h4]; exact s1, mset_nodup hn k v, s2 ▸ hb, fun x hx => ?_⟩, fun w hs hk0 hl0 => ⟨setB w r o, ?_, hs.setB r o⟩⟩
    · have : x.born ∈ l.map (·.born) := s2 ▸ List.mem_map.2 ⟨x, hx, rfl⟩
      obtain ⟨y, hy, e⟩ := List.mem_map.1 this
      rw [← e]; exact hc y hy
    · have hw : w.heap[r]? = some (.map l.toArray c) := by rw [hs.heap]; exact hr
      unfold Instr.mapUpdate
      simp only [Sem.run_bind, run_underlying ht, Result.andThen_ok, run_getM hw, K.chk, run_findKey K k w hk0 hl0 he, hf]
      simp only [List.getElem?_toArray, hlj, Option.map_some, Option.getD_some, hkj, run_keyStays K k, Result.andThen_ok, run_setM _ hw, Ev.setB]
      simp [o]
theorem map_eraseIdx {α β : Type} (f : α → β) : ∀ (l : List α) (j : Nat), (l.eraseIdx j).map f = (l.map f).eraseIdx j
  | [], _ => rfl
  | a :: r, 0 => rfl
  | a :: r, j + 1 => by simp [map_eraseIdx f r j]
theorem run_delete (K : KeyL P kt enc Lv) {t et : TypeId} (ht : P.underlying t = some (.map kt et)) {m : World} {r : Nat} {es : List (κ × Value)} (hM : MapIn m r enc es) (k : κ) :
    ∃ m' o, Chg m r o m' ∧ MapIn m' r enc (mdel es k) ∧ ∀ w t2 ty, Sim m w → Lv w k → (∀ p ∈ es, Lv w p.1) → ∃ w', (Builtin.delete_ #[t, t2] ty #[.map (some r), enc k]).run P w = .ok (.tuple #[]) w' ∧ Sim m' w' := by
  obtain ⟨l, c, hr, he, hn, hb, hc⟩ := hM
  cases hf : mfind k es 0 with
  | none =>
    obtain ⟨h1, h2⟩ := mfind_none hf
    let o : Obj := .map l.toArray c
    have hC := Chg.setB hr o
    refine ⟨setB m r o, o, hC, ⟨l, c, hC.here, by rw [(h2 undef).2]; exact he, mdel_nodup hn k, hb, hc⟩, fun w t2 ty hs hk0 hl0 => ⟨setB w r o, ?_, hs.setB r o⟩⟩
    have hw : w.heap[r]? = some (.map l.toArray c) := by rw [hs.heap]; exact hr
    unfold Builtin.delete_
    simp only [List.getElem?_toArray, List.getElem?_cons_zero, List.getElem?_cons_succ]
    simp only [Sem.run_bind, run_underlying ht, Result.andThen_ok, run_getM hw, K.chk, run_findKey K k w hk0 hl0 he, hf, run_setM _ hw, Ev.setB]
    simp [o]
  | some p =>
    obtain ⟨j, v0⟩ := p
    obtain ⟨_, _, h3, _, h5⟩ := mfind_some hf
    simp only [Nat.sub_zero] at h3 h5
    let o : Obj := .map (l.eraseIdx j).toArray c
    have hC := Chg.setB hr o
    have hl : l.length = es.length := by have := congrArg List.length he; simpa using this
    have hlt : j < es.length := (List.getElem?_eq_some_iff.1 h3).1
    refine ⟨setB m r o, o, hC, ⟨_, _, hC.here, ?_, mdel_nodup hn k, ?_, fun x hx => hc x (List.mem_of_mem_eraseIdx hx)⟩, fun w t2 ty hs hk0 hl0 => ⟨setB w r o, ?_, hs.setB r o⟩⟩
    · rw [h5]; unfold EsOk at he ⊢; rw [map_eraseIdx, he, map_eraseIdx]
    · rw [map_eraseIdx]; exact hb.sublist (List.eraseIdx_sublist _ _)
    · have hw : w.heap[r]? = some (.map l.toArray c) := by rw [hs.heap]; exact hr
      have he' : (l.toArray.eraseIdxIfInBounds j) = (l.eraseIdx j).toArray := by simp
      unfold Builtin.delete_
      simp only [List.getElem?_toArray, List.getElem?_cons_zero, List.getElem?_cons_succ]
      simp only [Sem.run_bind, run_underlying ht, Result.andThen_ok, run_getM hw, K.chk, run_findKey K k w hk0 hl0 he, hf, he', run_setM _ hw, Ev.setB]
      simp [o]
end
section
variable {κ : Type} [DecidableEq κ] {enc : κ → Value} {P : Program} {T : Ty} {ops : Array Oper} {Q : Exit → Act → World → Prop} {l rest : List Oper} {n : Nat} {e e' : Env} {D : Fr} {ds : List Deferred} {m0 m m' : World} {M0 X : List Nat} {H H' F L : List Asn}
  {d : Option Tmp} {x y z : Operand} {t ty kt et : TypeId} {pos : String} {aft : Array Edge} {g : Option (Nat × Bool)} {v u : Value} {rt re : Row} {fin : List Nat} {fuel : Nat} {listed : Array Bool} {r : Nat} {es : List (κ × Value)} {k : κ}
omit [DecidableEq κ] in
theorem Tr.repMap {es' : List (κ × Value)} (h : Tr m0 M0 X m H) (hr : Rep (mapA r enc es) (mapA r enc es') H H') {o : Obj} (hC : Chg m r o m') (hM : MapIn m' r enc es') : Tr m0 M0 X m' H' := by
  obtain ⟨F, h1, h2⟩ := hr.perms
  exact ((h.perm h1).step_same (A := mapA r enc es) (B := mapA r enc es') (by simpa [mapA] using hC.ext) rfl hM).perm h2
theorem RL.lookup (hT : T.Ok P) (hS : Tr m0 M0 X m H) (K : KeyT P kt enc) {ok : Bool} (hg : gd ops e ⟨d, .lookup t x y ok, ty, pos, aft, g⟩ = some true) (hrt : T.row t = some rt) (hk : rt.k = .map kt et) (hre : T.row et = some re)
    (hx : e.ev x = some (.map (some r))) (hy : e.ev y = some (enc k)) (hm : mapA r enc es ∈ H) (hv : (if ok then .tuple #[(mget es k).getD re.zero, .bool (mget es k).isSome] else (mget es k).getD re.zero) = v) (hp : putE n d v e = some e')
    (h : RL P ops Q rest n e' D m) : RL P ops Q (⟨d, .lookup t x y ok, ty, pos, aft, g⟩ :: rest) n e D m := by
  have hu := (hT.row hrt).k
  rw [hk] at hu
  refine RL.value v hg (fun a w hf hs => ?_) hp h
  have h1 := run_lookup K hu (fun w => (hT.row hre).run_zero w) (hS.mem hm) hs k trivial (fun _ _ => trivial) ok
  rw [hv] at h1
  simp [execOp, hf.ev hx, hf.ev hy, h1]
theorem RH.lookup (hT : T.Ok P) (hQ : PanicOk Q) (K : KeyT P kt enc) {i : Nat} {ok : Bool} (_ : pickB isLook ops fin listed.toList (rdyL ops listed.toList) = some i) (hB : (plainOps ops && takesB ops fin listed [i]) = true) (hi : ops[i]? = some ⟨d, .lookup t x y ok, ty, pos, aft, g⟩) (hg : gd ops e ⟨d, .lookup t x y ok, ty, pos, aft, g⟩ = some true) (hrt : T.row t = some rt) (hk : rt.k = .map kt et) (hre : T.row et = some re)
    (hx : e.ev x = some (.map (some r))) (hy : e.ev y = some (enc k)) (hm : mapA r enc es ∈ L) (hv : (if ok then .tuple #[(mget es k).getD re.zero, .bool (mget es k).isSome] else (mget es k).getD re.zero) = v) (hp : putE n d v e = some e')
    (h : RH P ops Q (JS m0 M0 X L) fin fuel (listed.setIfInBounds i true) n e' D m) : RH P ops Q (JS m0 M0 X L) fin (fuel + 1) listed n e D m := by
  have hu := (hT.row hrt).k
  rw [hk] at hu
  simp only [takesB, Bool.and_eq_true, Bool.and_true] at hB
  refine RH.take hi hB.1 hB.2.1 hB.2.2 hQ (fun a hf => .inl ⟨gd_sound hf hg, fun w ⟨m', hs, H, hT', hL⟩ => ?_⟩) hp h
  have h1 := run_lookup K hu (fun w => (hT.row hre).run_zero w) (hT'.mem (hL.mem hm)) hs k trivial (fun _ _ => trivial) ok
  rw [hv] at h1
  simp [execOp, hf.ev hx, hf.ev hy, h1]
theorem RL.mapUpdate (hT : T.Ok P) (hS : Tr m0 M0 X m H) (K : KeyT P kt enc) (hg : gd ops e ⟨d, .mapUpdate t x y z, ty, pos, aft, g⟩ = some true) (hrt : T.row t = some rt) (hk : rt.k = .map kt et)
    (hx : e.ev x = some (.map (some r))) (hy : e.ev y = some (enc k)) (hz : e.ev z = some v) (hm : mapA r enc es ∈ H) (hr : Rep (mapA r enc es) (mapA r enc (mset es k v)) H H') (hp : putE n d undef e = some e')
    (h : ∀ m', Tr m0 M0 X m' H' → RL P ops Q rest n e' D m') : RL P ops Q (⟨d, .mapUpdate t x y z, ty, pos, aft, g⟩ :: rest) n e D m := by
  have hu := (hT.row hrt).k
  rw [hk] at hu
  obtain ⟨m', o, hC, hM, hw⟩ := run_mapUpdate K hu (hS.mem hm) k v
  refine RL.skipW m' hg (fun a w hf hs => ?_) hp (h m' (hS.repMap hr hC hM))
  obtain ⟨w', h1, h2⟩ := hw w hs trivial (fun _ _ => trivial)
  exact ⟨w', by simp [execOp, hf.ev hx, hf.ev hy, hf.ev hz, h1], h2⟩
theorem RH.mapUpdateF {J : World → Prop} (hT : T.Ok P) (hS : Tr m0 M0 X m H) (K : KeyT P kt enc) {i : Nat} (_ : rdyL ops listed.toList = [i]) (hr1 : Region.ready .any ops listed = [i]) (hi : ops[i]? = some ⟨d, .mapUpdate t x y z, ty, pos, aft, g⟩) (hg : gd ops e ⟨d, .mapUpdate t x y z, ty, pos, aft, g⟩ = some true) (hrt : T.row t = some rt) (hk : rt.k = .map kt et)
    (hx : e.ev x = some (.map (some r))) (hy : e.ev y = some (enc k)) (hz : e.ev z = some v) (hm : mapA r enc es ∈ H) (hr : Rep (mapA r enc es) (mapA r enc (mset es k v)) H H') (hp : putE n d undef e = some e') (hB : (fin.contains i && (Region.ready .any ops (listed.setIfInBounds i true)).isEmpty) = true)
    (h : ∀ m', Tr m0 M0 X m' H' → QN Q .normal n e' D m') : RH P ops Q J fin (fuel + 1) listed n e D m :=
  RH.only i hi (by simpa using hr1) fun _ => RL.mapUpdate hT hS K hg hrt hk hx hy hz hm hr hp fun m' h1 => RL.N1 (RF.last hB (h m' h1))
theorem RL.delete (hT : T.Ok P) (hS : Tr m0 M0 X m H) (K : KeyT P kt enc) {t2 : TypeId} (hg : gd ops e ⟨d, .call ⟨.builtin .delete, #[x, y], #[t, t2]⟩, ty, pos, aft, g⟩ = some true) (hrt : T.row t = some rt) (hk : rt.k = .map kt et)
    (hx : e.ev x = some (.map (some r))) (hy : e.ev y = some (enc k)) (hm : mapA r enc es ∈ H) (hr : Rep (mapA r enc es) (mapA r enc (mdel es k)) H H') (hp : putE n d (.tuple #[]) e = some e')
    (h : ∀ m', Tr m0 M0 X m' H' → RL P ops Q rest n e' D m') : RL P ops Q (⟨d, .call ⟨.builtin .delete, #[x, y], #[t, t2]⟩, ty, pos, aft, g⟩ :: rest) n e D m := by
  have hu := (hT.row hrt).k
  rw [hk] at hu
  obtain ⟨m', o, hC, hM, hw⟩ := run_delete K hu (hS.mem hm) k
  refine RL.valueW _ m' hg (fun a w hf hs => ?_) hp (h m' (hS.repMap hr hC hM))
  obtain ⟨w', h1, h2⟩ := hw w t2 ty hs trivial (fun _ _ => trivial)
  refine ⟨w', ?_, h2⟩
  simp [execOp, resolve, invoke, builtin, hf.ev hx, hf.ev hy, h1]
omit [DecidableEq κ] in
theorem RL.makeMap (hS : Tr m0 M0 X m H) (enc : κ → Value) (hg : gd ops e ⟨d, .makeMap t none, ty, pos, aft, g⟩ = some true)
    (h : ∀ r m', Tr m0 M0 X m' (mapA r enc [] :: H) → ∃ e', putE n d (.map (some r)) e = some e' ∧ RL P ops Q rest n e' D m') : RL P ops Q (⟨d, .makeMap t none, ty, pos, aft, g⟩ :: rest) n e D m := by
  have hC := Chg.alloc m (.map #[] 0)
  have hM : MapIn (m.alloc (.map #[] 0)) m.heap.size enc [] := ⟨[], 0, hC.here, rfl, by simp, by simp, by simp⟩
  have hS' : Tr m0 M0 X (m.alloc (.map #[] 0)) (mapA m.heap.size enc [] :: H) := hS.new (hC.new (Nat.le_refl _)) (fun k hk => Nat.le_of_eq (show m.heap.size = k from (List.mem_singleton.1 hk).symm)) (by simp [mapA]) hM
  obtain ⟨e', hp, hk⟩ := h _ _ hS'
  refine RL.valueW _ _ hg (fun a w hf hs => ⟨_, ?_, hs.alloc _⟩) hp hk
  simp [execOp, Instr.makeMap, hs.size]
end
end Go.Ev
end
section
namespace Go.Ev
open Go.RowKit
section
variable {P : Program} {T : Ty} {ops : Array Oper} {Q : Exit → Act → World → Prop} {rest : List Oper} {n : Nat} {e e' : Env} {D : Fr} {m0 m w : World} {M0 X : List Nat} {H H' : List Asn}
  {d : Option Tmp} {x y : Operand} {t te ti tb ty : TypeId} {pos : String} {aft : Array Edge} {g : Option (Nat × Bool)} {rt r : Row} {S : List Nat} {sz nn : Nat} {v : Value} {xs cs : List Value}
theorem Tr.unrow (h : Tr m0 M0 X m (ownA S t sz v nn xs :: H)) (hn : 0 < nn) : ∃ b cap cur, v = .slice (some ⟨b, 0, none⟩) nn cap ∧ S = [b] ∧ nn ≤ cap ∧ cap ≤ maxLen ∧ cur.length = cap * sz ∧ cur.take (nn * sz) = xs ∧ Tr m0 M0 X m (blkA b t cur :: H) := by
  obtain ⟨b, cap, cur, h1, h2, h3, h4, h5, h6, h7⟩ := Own.at_ (show Own m S t sz v nn xs from h.head) hn
  subst h7
  exact ⟨b, cap, cur, h1, rfl, h3, h4, h5, h6, h.turn (B := blkA b t cur) (fun _ => h2) (fun k hk => hk) (by simp [blkA])⟩
theorem Tr.rerow {b cap : Nat} {cur : List Value} (h : Tr m0 M0 X m (blkA b t cur :: H)) (hn : nn ≤ cap) (hm : cap ≤ maxLen) (hl : cur.length = cap * sz) : Tr m0 M0 X m (ownA [b] t sz (.slice (some ⟨b, 0, none⟩) nn cap) nn (cur.take (nn * sz)) :: H) :=
  h.turn (B := ownA [b] t sz (.slice (some ⟨b, 0, none⟩) nn cap) nn (cur.take (nn * sz))) (fun hP => ⟨by rw [List.length_take, hl]; exact Nat.min_eq_left (Nat.mul_le_mul_right _ hn), .inr ⟨b, cap, cur, rfl, hP, hn, hm, hl, rfl, rfl⟩⟩) (fun k hk => hk) (by simp [ownA])
theorem RL.buildSliceM (hT : T.Ok P) (hS : Tr m0 M0 X m H) {k : Nat} {parts : Array (Nat × Operand)} (xs : List Operand) {us : List Value} (cs : List Value) (he : T.elem t = some (te, r)) (hparts : parts = (opsParts 0 xs).toArray) (hk : xs.length = k) (hne : Nat.blt 0 k = true) (hsm : Nat.ble k 16000 = true)
    (hus : e.evs xs = some us) (hu : ∀ u ∈ us, u.cells.size = r.size) (hcs : us.flatMap (·.cells.toList) = cs) (hl : cs.length = k * r.size) (hg : gd ops e ⟨d, .buildSlice t k parts, ty, pos, aft, g⟩ = some true)
    (h : ∀ b m', Tr m0 M0 X m' (ownA [b] te r.size (.slice (some ⟨b, 0, none⟩) k k) k cs :: H) → ∃ e', putE n d (.slice (some ⟨b, 0, none⟩) k k) e = some e' ∧ RL P ops Q rest n e' D m') :
    RL P ops Q (⟨d, .buildSlice t k parts, ty, pos, aft, g⟩ :: rest) n e D m :=
  RL.buildSlice hT xs cs he hparts hk hne hsm hus hu hcs hg fun b m' hb hC => by
    have h1 := Tr.rerow (sz := r.size) (nn := k) (cap := k) (hS.alloc hC hb) (Nat.le_refl _) (Nat.le_trans (Nat.le_of_ble_eq_true hsm) (by decide)) hl
    rw [List.take_of_length_le (by omega)] at h1
    exact h b m' h1
theorem RL.copyM (hT : T.Ok P) (hS : Tr m0 M0 X m H) {t2 : TypeId} {b off dl dc sl sc : Nat} {ad : Addr} (vs : List Value) (he : T.elem t = some (te, r)) (hg : gd ops e ⟨d, .call ⟨.builtin .copy, #[x, y], #[t, t2]⟩, ty, pos, aft, g⟩ = some true)
    (hx : e.ev x = some (.slice (some ⟨b, off, none⟩) dl dc)) (hy : e.ev y = some (.slice (some ad) sl sc)) (hm : blkA b tb cs ∈ H) (hr : Rep (blkA b tb cs) (blkA b tb (cs.take off ++ vs ++ cs.drop (off + vs.length))) H H')
    (hv : vs.length = Nat.min sl dl * r.size) (hcell : ∀ j u, vs[j]? = some u → m.cell? (ad.add j) = some u) (hfit : off + vs.length ≤ cs.length) (h1 : ∀ u ∈ vs, u.oneCell' = true) (hp : putE n d (.int .i64 (Nat.min sl dl : Nat)) e = some e')
    (h : ∀ m', Tr m0 M0 X m' H' → RL P ops Q rest n e' D m') : RL P ops Q (⟨d, .call ⟨.builtin .copy, #[x, y], #[t, t2]⟩, ty, pos, aft, g⟩ :: rest) n e D m := by
  obtain ⟨rt, hrt, hk, hr', _, _, _⟩ := Ty.elem_spec he
  have hu := (hT.row hrt).k
  rw [hk] at hu
  have hB : Blk m b tb cs := hS.mem hm
  refine RL.valueW (.int .i64 (Nat.min sl dl : Nat)) (m.setRow b (cs.take off ++ vs ++ cs.drop (off + vs.length)).toArray) hg (fun a w hf hs => ⟨w.setRow b (cs.take off ++ vs ++ cs.drop (off + vs.length)).toArray, ?_, hs.setRow b _⟩) hp (h _ (hS.rep hr (setRow_chg hB _)))
  have hw : w.heap[b]? = some (.cells cs.toArray tb (0, 0)) := by rw [hs.heap]; exact hB
  have hl := run_loadCells_list (P := P) w ad vs (fun j u hu => (hs.cell _).trans (hcell j u hu))
  have hst := run_storeCells_at P b off tb vs 0 cs.toArray w hw (by simpa using hfit) h1
  simp only [Nat.add_zero] at hst
  have hsz := fun W => (hT.row hr').run_size W
  have hcopy : (Builtin.copy_ #[t, t2] ty #[.slice (some ⟨b, off, none⟩) dl dc, .slice (some ad) sl sc]).run P w = .ok (goInt (Nat.min sl dl)) (w.setRow b (cs.take off ++ vs ++ cs.drop (off + vs.length)).toArray) := by
    simp [Builtin.copy_, run_underlying hu, Builtin.lenOf, Builtin.firstCells, hsz, ← hv, hl, hst]
  simp [execOp, resolve, invoke, builtin, hf.ev hx, hf.ev hy, hcopy, goInt]
theorem RL.appendZeros (hT : T.Ok P) (hS : Tr m0 M0 X m H) (he : T.elem t = some (te, r)) (hti : (T.row ti).map (·.k) = some (.int .i64)) {k i cap : Nat} {j : Int} {ad : Addr} (xs : List Value)
    (hg : gd ops e ⟨d, .call ⟨.builtin .append, #[x, y], #[t, ti]⟩, ty, pos, aft, g⟩ = some true) (hx : e.ev x = some (.slice (some ad) i cap)) (hy : e.ev y = some (.int .i64 j)) (hj : j = (k : Int)) (hk0 : 0 < k) (hno : cap < i + k) (hmax : i + k ≤ maxLen) (hbytes : (i + k) * r.bytes ≤ 140737488355328)
    (hl : xs.length = i * r.size) (hcell : ∀ j u, xs[j]? = some u → m.cell? (ad.add j) = some u)
    (h : ∀ b cap' zs m', Tr m0 M0 X m' (blkA b te (xs ++ zs) :: H) → i + k ≤ cap' → cap' ≤ maxLen → (xs ++ zs).length = cap' * r.size → ∃ e', putE n d (.slice (some ⟨b, 0, none⟩) (i + k) cap') e = some e' ∧ RL P ops Q rest n e' D m') :
    RL P ops Q (⟨d, .call ⟨.builtin .append, #[x, y], #[t, ti]⟩, ty, pos, aft, g⟩ :: rest) n e D m := by
  subst hj
  obtain ⟨rt, hrt, hk, hr, hcz, hsz, _⟩ := Ty.elem_spec he
  obtain ⟨r1, hr1, hr1'⟩ := Option.map_eq_some_iff.1 hti
  have hti' := (hT.row hr1).k; rw [hr1'] at hti'
  have hti'' : P.underlying ti = some (.int .i64) := hti'
  have hu := (hT.row hrt).k
  rw [hk] at hu
  obtain ⟨inf, hi, hz0, hz1, hz2⟩ := (hT.row hr).parts
  have hmx : i + k ≤ 9223372036854775807 := by unfold maxLen at hmax; omega
  have hwr : IntKind.i64.wrap (k : Int) = k := wrap_i64_in _ (by omega) (by omega)
  have h63 : ¬ ((9223372036854775807 : Int) < (i : Int) + (k : Int)) := by omega
  have hmk : max (k : Int) 0 = k := by omega
  have hneg : ¬ ((k : Int) < 0) := by omega
  have h48 : ¬ (281474976710656 < Builtin.nextslicecap (i + k) cap * inf.bytes) := by
    rw [hz2]
    have := growslice_fits hno hbytes
    omega
  have hb48 : ¬ ((281474976710656 : Int) < (k : Int) * (inf.bytes : Int)) := by
    rw [hz2]
    have h1 : k * r.bytes ≤ (i + k) * r.bytes := Nat.mul_le_mul_right _ (by omega)
    have : (k : Int) * (r.bytes : Int) ≤ 140737488355328 := by rw [← Int.natCast_mul]; omega
    omega
  have hns : ¬ (k * r.size = 0) := Nat.ne_of_gt (Nat.mul_pos hk0 hsz)
  have hn' : ¬ (i + k ≤ cap) := by omega
  refine RL.valueX (R := fun v' m' => ∃ cap' zs, v' = .slice (some ⟨m.heap.size, 0, none⟩) (i + k) cap' ∧ Tr m0 M0 X m' (blkA m.heap.size te (xs ++ zs) :: H) ∧ i + k ≤ cap' ∧ cap' ≤ maxLen ∧ (xs ++ zs).length = cap' * r.size) hg (fun a w hf hs => ?_)
    (fun v' m' ⟨cap', zs, hv, h2, h3, h4, h5⟩ => by subst hv; exact h _ cap' zs m' h2 h3 h4 h5)
  have hge := grownCap_ge w (i + k) cap te
  have hcm := grownCap_le_maxLen w (i + k) cap te hmax
  let zs := (Builtin.zeroCells r.zero.cells k).toList ++ (Builtin.zeroCells r.zero.cells (grownCap w (i + k) cap te - (i + k))).toList
  let w' := w.drew.alloc (.cells (xs ++ zs).toArray te)
  have hb : Blk w' w.heap.size te (xs ++ zs) := heap_alloc_new w.drew _
  have hE : Ext m [] (low m w') := by
    refine ⟨hs.os, hs.tape, hs.output, by rw [low_heap]; simp [w', hs.size], fun q hq _ => ?_, dle.low (Nat.le_succ_of_le hs.drawn)⟩
    rw [low_heap]
    show (w.drew.alloc _).heap[q]? = _
    rw [Below.heap_alloc w.drew _ q (by show q < w.heap.size; rw [hs.size]; exact hq)]
    show w.heap[q]? = _
    rw [hs.heap]
  have hlen : (xs ++ zs).length = grownCap w (i + k) cap te * r.size := by
    simp only [zs, List.length_append, hl, size_zero, hcz, ← Nat.add_mul]; congr 1; omega
  have hT' : Tr m0 M0 X (low m w') (blkA m.heap.size te (xs ++ zs) :: H) := hS.new (B := blkA m.heap.size te (xs ++ zs)) hE (fun q hq => Nat.le_of_eq (show m.heap.size = q from (List.mem_singleton.1 hq).symm)) (by simp [blkA]) (by
    show Blk (low m w') m.heap.size te _
    unfold Blk; rw [low_heap, ← hs.size]; exact hb)
  refine ⟨_, w', low m w', ?_, Sim.low m w', grownCap w (i + k) cap te, zs, rfl, hT', hge, hcm, hlen⟩
  have hf1 : (Builtin.firstCells r.size i (.slice (some ad) i cap)).run P w.drew = .ok xs.toArray w.drew := run_firstCells_some w.drew r.size i ad i cap xs hl (fun j u hu => (hs.drew.cell _).trans (hcell j u hu))
  have happ : (Builtin.append_ #[t, ti] ty #[.slice (some ad) i cap, .int .i64 k]).run P w = .ok (.slice (some ⟨m.heap.size, 0, none⟩) (i + k) (grownCap w (i + k) cap te)) w' := by
    simp [Builtin.append_, run_underlying hu, run_underlying hti'', sizeOf, typeInfo, zeroValue, hi, hz0, hz1, asIntOf, hwr, hb48, asInt, h48, h63, hmk, hneg, newRow, Question.forced, grownCap, hn', hf1, ← hs.size]
    rw [if_neg hns]
    congr 2
    simp only [zs]
    congr 2
    apply Array.ext'; simp [grownCap]
  simp [execOp, resolve, invoke, builtin, hf.ev hx, hf.ev hy, happ]
theorem RL.overlaps (hT : T.Ok P) (hS : Tr m0 M0 X m H) {f : FuncId} {fn : Func} {fo : Operand} {xs' : Array Operand} {ts : Array TypeId} {tS tR : TypeId} {b1 b2 o1 o2 la ca lb cb : Nat} {c1 c2 : List Value} {t1 t2 : TypeId} (hf : P.funcs[f]? = some fn) (hname : (fn.name == "runtime.NumGoroutine") = false)
    (hb : fn.body.isNone = true) (hn : Extern.findNext fn = none) (hex : Extern.find fn = some (Extern.SlicesOverlaps.overlaps #[tS, tS] #[tR])) (he : T.elem tS = some (te, r))
    (hg : gd ops e ⟨d, .call ⟨.value fo, xs', ts⟩, ty, pos, aft, g⟩ = some true) (hfo : e.ev fo = some (.func (.func f) #[] #[])) (hxs : e.evs xs'.toList = some [.slice (some ⟨b1, o1, none⟩) la ca, .slice (some ⟨b2, o2, none⟩) lb cb])
    (h1 : blkA b1 t1 c1 ∈ H) (h2 : blkA b2 t2 c2 ∈ H) (hne : b1 ≠ b2) (hc2 : c2.length ≠ 0) (hp : putE n d (.bool false) e = some e') (h : RL P ops Q rest n e' D m) : RL P ops Q (⟨d, .call ⟨.value fo, xs', ts⟩, ty, pos, aft, g⟩ :: rest) n e D m := by
  obtain ⟨rt, hrt, hk, hr, _, _, _⟩ := Ty.elem_spec he
  have hu := (hT.row hrt).k
  rw [hk] at hu
  refine RL.value (.bool false) hg (fun a w hfi hs => ?_) hp h
  have hB1 : Blk m b1 t1 c1 := hS.mem h1
  have hB2 : Blk m b2 t2 c2 := hS.mem h2
  have hw1 : w.heap[b1]? = some (.cells c1.toArray t1 (0, 0)) := by rw [hs.heap]; exact hB1
  have hw2 : w.heap[b2]? = some (.cells c2.toArray t2 (0, 0)) := by rw [hs.heap]; exact hB2
  have hcall := run_callFunc_extern hf hname hb hn hex #[.slice (some ⟨b1, o1, none⟩) la ca, .slice (some ⟨b2, o2, none⟩) lb cb] w
  rw [Lib.run_overlaps_apart w tS tR te hu r.size (fun W => (hT.row hr).run_size W) ⟨b1, o1, none⟩ ⟨b2, o2, none⟩ la ca lb cb hne t1 t2 c1.length c2.length (by simp [World.shape?, hw1]) (by simp [World.shape?, hw2]) hc2 (by simp [World.frozen?, hw1]) (by simp [World.frozen?, hw1])] at hcall
  have hargs : xs'.map a.eval = #[.slice (some ⟨b1, o1, none⟩) la ca, .slice (some ⟨b2, o2, none⟩) lb cb] := Array.ext' (by rw [Array.toList_map]; exact hfi.evs hxs)
  simp only [Result.andThen_ok] at hcall
  simp [execOp, resolve, hfi.ev hfo, Deferred.ofValue, invoke, hargs, hcall]
end
end Go.Ev
end
section
namespace Go.Ev
open Go.RowKit
def lpA (B : Nat) (r : Loop) : Asn where
  own := [B, B + 1]
  P := fun m _ => m.heap[B]? = some (.deferred (some [])) ∧ m.heap[B + 1]? = some (.loop r)
  lt := fun h k hk => by
    have h1 := (Array.getElem?_eq_some_iff.1 h.1).1
    have h2 := (Array.getElem?_eq_some_iff.1 h.2).1
    simp only [List.mem_cons, List.not_mem_nil, or_false] at hk
    rcases hk with rfl | rfl <;> assumption
  keep := fun h hE hn _ _ => ⟨(hE.far _ (Array.getElem?_eq_some_iff.1 h.1).1 (hn _ (by simp))).trans h.1, (hE.far _ (Array.getElem?_eq_some_iff.1 h.2).1 (hn _ (by simp))).trans h.2⟩
def spA (B : Nat) : Asn where
  own := [B, B + 1]
  P := fun m _ => B + 1 < m.heap.size
  lt := fun h k hk => by
    simp only [List.mem_cons, List.not_mem_nil, or_false] at hk
    rcases hk with rfl | rfl
    · exact Nat.lt_of_succ_lt h
    · exact h
  keep := fun h hE _ _ _ => Nat.lt_of_lt_of_le h hE.size
section
variable {m0 m : World} {M0 X : List Nat} {H F : List Asn} {B : Nat} {r r' : Loop}
theorem putObj_chg {l : Nat} {o : Obj} (h : l < m.heap.size) : Chg m l o (m.putObj l o) :=
  ⟨rfl, rfl, rfl, World.putObj_heap_same h, fun k hk => World.putObj_heap_other hk, by simp; omega, dle.refl _⟩
theorem Tr.rec_ (h : Tr m0 M0 X m (lpA B r :: H)) : Tr m0 M0 X (m.putObj (B + 1) (.loop r')) (lpA B r' :: H) := by
  have h1 : (lpA B r).P m (ofps (lpA B r :: H) ++ X) := h.head
  have hC := putObj_chg (m := m) (o := .loop r') (Array.getElem?_eq_some_iff.1 h1.2).1
  exact h.step_same (A := lpA B r) (B := lpA B r') (hC.ext.mono fun k hk _ => by simp [lpA] at hk ⊢; exact .inr hk) rfl ⟨(World.putObj_heap_other (by omega)).trans h1.1, hC.here⟩
theorem Tr.recAt (h : Tr m0 M0 X m (F ++ lpA B r :: H)) : Tr m0 M0 X (m.putObj (B + 1) (.loop r')) (F ++ lpA B r' :: H) :=
  ((h.perm (List.perm_middle (a := lpA B r))).rec_ (r' := r')).perm (List.perm_middle (a := lpA B r')).symm
theorem Tr.recGet (h : Tr m0 M0 X m (F ++ lpA B r :: H)) : m.heap[B]? = some (.deferred (some [])) ∧ m.heap[B + 1]? = some (.loop r) := h.mem (A := lpA B r) (by simp)
theorem Tr.leave (h : Tr m0 M0 X m (lpA B r :: H)) : Tr m0 M0 X (m.putObj B (.deferred none)) H := by
  have h1 : (lpA B r).P m (ofps (lpA B r :: H) ++ X) := h.head
  have hC := putObj_chg (m := m) (o := .deferred none) (Array.getElem?_eq_some_iff.1 h1.1).1
  have hnd := (List.nodup_append.1 (ofps_cons (lpA B r) H ▸ h.hold.nd)).1
  have := h.step_same (A := lpA B r) (B := spA B) (hC.ext.mono fun k hk _ => by simp [lpA] at hk ⊢; exact .inl hk) rfl (by
    have := (Array.getElem?_eq_some_iff.1 h1.2).1
    simpa [spA] using this)
  exact this.tail
theorem Tr.lay (h : Tr m0 M0 X m H) (rec : Loop) (hB : B = m.heap.size) : Tr m0 M0 X ((m.alloc (.deferred (some []))).alloc (.loop rec)) (lpA B rec :: H) := by
  subst hB
  have hC1 := Chg.alloc m (.deferred (some []))
  have hC2 := Chg.alloc (m.alloc (.deferred (some []))) (.loop rec)
  have hs : (m.alloc (.deferred (some []))).heap.size = m.heap.size + 1 := by rw [World.size_alloc]
  rw [hs] at hC2
  have hE : Ext m [] ((m.alloc (.deferred (some []))).alloc (.loop rec)) := (hC1.new (Nat.le_refl _)).trans (hC2.new (by omega)) (by simp)
  refine h.new (B := lpA m.heap.size rec) hE (fun k hk => ?_) ?_ ⟨(hC2.far _ (by omega)).trans hC1.here, hC2.here⟩
  · simp only [lpA, List.mem_cons, List.not_mem_nil, or_false] at hk
    rcases hk with rfl | rfl <;> omega
  · simp [lpA]
end
def ItT {α : Type} (P : Program) (gf : FuncId) (lb : List Value) (encs : α → List Value) (V : List α → α → Prop) (S : List α → Prop) (need : List α → List Asn → Prop) : Prop :=
  ∀ (l : Nat) (I Ix : List α → List Asn → Prop) (m0 m : World) (M0 X : List Nat) (H : List Asn), I [] H → Tr m0 M0 X m H → (∀ pre H, I pre H → need pre H) →
    (∀ pre x F m H, I pre H → V pre x → Tr m0 M0 X m (F ++ H) → RdE P l (encs x) m fun ed m' => ∃ H', Tr m0 M0 X m' (F ++ H') ∧ ((ed = .returned (.bool true) ∧ I (pre ++ [x]) H') ∨ (ed = .returned (.bool false) ∧ Ix (pre ++ [x]) H'))) →
    FnR P gf (.func (.yield l) #[] #[] :: lb) m fun _ m' => (∃ xs H', S xs ∧ I xs H' ∧ Tr m0 M0 X m' H') ∨ ∃ pre H', Ix pre H' ∧ Tr m0 M0 X m' H'
def rdT {α : Type} (m0 : World) (M0 X : List Nat) (G : List Asn) (C : Asn) (I : List α → List Asn → Prop) (Ix : Code → List α → List Asn → Prop) (pre : List α) : Exit → Act → World → Prop
  | .normal, _, w => ∃ m' H', Sim m' w ∧ Tr m0 M0 X m' (G ++ C :: H') ∧ I pre H'
  | .ret, _, w => ∃ m' H', Sim m' w ∧ Tr m0 M0 X m' (G ++ C :: H') ∧ Ix .ret pre H'
  | .exit id, _, w => ∃ m' H', Sim m' w ∧ Tr m0 M0 X m' (G ++ C :: H') ∧ Ix (.exit id) pre H'
  | _, _, _ => False
section
variable {α β : Type} {m0 m' : World} {M0 X : List Nat} {G G2 H H' : List Asn} {C : Asn} {I : List α → List Asn → Prop} {Ix : Code → List α → List Asn → Prop} {pre : List α} {n : Nat} {e : Env} {D : Fr}
theorem QN.roundT (hS : Tr m0 M0 X m' (G ++ C :: H')) (hi : I pre H') : QN (rdT m0 M0 X G C I Ix pre) .normal n e D m' := fun _ _ _ hs => ⟨m', H', hs, hS, hi⟩
theorem QN.retT (hS : Tr m0 M0 X m' (G ++ C :: H')) (hi : Ix .ret pre H') : QN (rdT m0 M0 X G C I Ix pre) .ret n e D m' := fun _ _ _ hs => ⟨m', H', hs, hS, hi⟩
theorem QN.exitT {id : Nat} (hS : Tr m0 M0 X m' (G ++ C :: H')) (hi : Ix (.exit id) pre H') : QN (rdT m0 M0 X G C I Ix pre) (.exit id) n e D m' := fun _ _ _ hs => ⟨m', H', hs, hS, hi⟩
def asgT {β : Type} (m0 : World) (M0 X : List Nat) (R : List Asn) (n : Nat) (D : Fr) (EA : β → Env) (IA : β → List Asn → Prop) : Exit → Act → World → Prop := Exit.then (fun a w => ∃ y m2 G2, Fits n (EA y) D a ∧ Sim m2 w ∧ Tr m0 M0 X m2 (G2 ++ R) ∧ IA y G2) (fun _ _ _ => False)
theorem QN.asgT {R : List Asn} {EA : β → Env} {IA : β → List Asn → Prop} (y : β) (G2 : List Asn) (hs : Sub (EA y) e) (hS : Tr m0 M0 X m' (G2 ++ R)) (hi : IA y G2) : QN (Ev.asgT m0 M0 X R n D EA IA) .normal n e D m' := fun _ _ hf hw => ⟨y, m', G2, hf.sub hs, hw, hS, hi⟩
theorem WP.rangeT {P : Program} {Q : Exit → Act → World → Prop} {ds : List Deferred} {m : World} {g : Operand} {ps : List Tmp} {assign body : Code} {gf : FuncId} {lb : List Value} {V : List α → α → Prop} {S : List α → Prop} {need : List α → List Asn → Prop}
    (encs : α → List Value) (hg : e.ev g = some (.func (.func gf) #[] lb.toArray)) (hit : ItT P gf lb encs V S need) (hgf : Callable P gf) (hS : Tr m0 M0 X m H)
    (I : List α → List Asn → Prop) (Ix : Code → List α → List Asn → Prop) (h0 : I [] H) (hneed : ∀ pre H C, I pre H → need pre (C :: H))
    (E : α → Env) (hE : ∀ x, putPs n ps (encs x) e = some (E x)) (hps : ∀ x, (encs x).length = ps.length) (EA : α → β → Env) (IA : α → β → List Asn → Prop)
    (hassign : ∀ l C pre x G m1 H1, I pre H1 → V pre x → Tr m0 M0 X m1 (G ++ C :: H1) → WP P assign (Ev.asgT m0 M0 X (G ++ C :: H1) n ⟨[], some l⟩ (EA x) (IA x)) n (E x) ⟨[], some l⟩ m1)
    (hbody : ∀ l C pre x y G2 G m2 H1, I pre H1 → V pre x → IA x y G2 → Tr m0 M0 X m2 (G2 ++ (G ++ C :: H1)) → WP P body (rdT m0 M0 X G C I Ix (pre ++ [x])) n (EA x y) ⟨[], some l⟩ m2)
    (hdone : ∀ B r xs m' H1, S xs → I xs H1 → Tr m0 M0 X m' (lpA B r :: H1) → QN Q .normal n e ⟨{ target := .collected B, args := #[] } :: ds, none⟩ m')
    (hstop : ∀ B r c pre m' H1, Ix c pre H1 → Tr m0 M0 X m' (lpA B r :: H1) → WP P c Q n e ⟨{ target := .collected B, args := #[] } :: ds, none⟩ m') :
    WP P (.rangeFunc g ps.toArray assign body) Q n e ⟨ds, none⟩ m := by
  intro a w hf hw
  refine wpIn_rangeFunc (F := fenceR none) ?_
  intro fn _
  obtain ⟨B, hB⟩ : ∃ B, m.heap.size = B := ⟨_, rfl⟩
  have hsz : w.heap.size = B := by rw [hw.heap, hB]
  obtain ⟨rec, hrec⟩ : ∃ rec : LoopState → Option Code → Loop, rec = fun st pe => { state := st, pending := pe, fn, tmps := a.tmps, params := ps.toArray, assign, body, defers := B } := ⟨_, rfl⟩
  obtain ⟨mW, hmW⟩ : ∃ mW, mW = (m.alloc (.deferred (some []))).alloc (.loop (rec .ready none)) := ⟨_, rfl⟩
  have hsW : Sim mW ((w.alloc (.deferred (some []))).alloc (.loop (rec .ready none))) := by rw [hmW]; exact (hw.alloc _).alloc _
  have hTW : Tr m0 M0 X mW (lpA B (rec .ready none) :: H) := by rw [hmW]; exact hS.lay _ hB.symm
  have hev : a.eval g = .func (.func gf) #[] lb.toArray := hf.ev hg
  refine ⟨B + 1, [{ target := .collected B, args := #[] }], (w.alloc (.deferred (some []))).alloc (.loop (rec .ready none)), { target := .fn (.func gf) lb.toArray, args := #[.func (.yield (B + 1)) #[] #[]] }, (w.alloc (.deferred (some []))).alloc (.loop (rec .ready none)), gf,
    #[.func (.yield (B + 1)) #[] #[]] ++ lb.toArray, (w.alloc (.deferred (some []))).alloc (.loop (rec .ready none)), ?_, ?_, fun _ _ => trivial, ?_, fun hh => (by cases hh), ?_⟩
  · have := run_enterLoop_outer (P := P) (w := w) fn a.tmps ps.toArray assign body
    rw [hsz] at this
    rw [hrec]
    exact this
  · simp only [resolve, hev]
    simp [go_sem]
  · exact invoke_fn hgf _ _ _
  · have hcall := hit (B + 1) (fun pre K => ∃ H1, K = lpA B (rec .ready none) :: H1 ∧ I pre H1) (fun pre K => ∃ H1 c, K = lpA B (rec .done (some c)) :: H1 ∧ Ix c pre H1) m0 mW M0 X _ ⟨H, rfl, h0⟩ hTW
      (fun pre K ⟨H1, hK, hi⟩ => hK ▸ hneed pre H1 _ hi) ?_
    · have hc := Calls.fr ⟨[], none⟩ (0 - 1) (hcall.2 _ hsW)
      have harr : (Value.func (Fn.yield (B + 1)) #[] #[] :: lb).toArray = #[.func (.yield (B + 1)) #[] #[]] ++ lb.toArray := by simp
      rw [harr] at hc
      refine CallsIn.mono hc ?_
      rintro ed w2 ⟨m2, hs2, v, rfl, ⟨xs, K, hSx, ⟨H1, rfl, hi⟩, hT2⟩ | ⟨pre, K, ⟨H1, c, rfl, hi⟩, hT2⟩⟩
      · have hl' : w2.heap[B + 1]? = some (.loop (rec .ready none)) := by rw [hs2.heap]; exact (Tr.recGet (F := []) hT2).2
        have hend := run_endLoop (P := P) hl' (by rw [hrec]; simp)
        refine ⟨none, w2.putObj (B + 1) (.loop { rec .ready none with state := .exhausted }), by rw [hend, hrec], ?_⟩
        have hq := hdone B _ xs _ H1 hSx hi (hT2.rec_ (r' := { rec .ready none with state := .exhausted }))
        exact hq _ _ ⟨hf.size, by show _ ++ _ = _ :: ds; rw [hf.defers]; rfl, hf.get⟩ (hs2.putObj _ _)
      · have hl' : w2.heap[B + 1]? = some (.loop (rec .done (some c))) := by rw [hs2.heap]; exact (Tr.recGet (F := []) hT2).2
        have hend := run_endLoop (P := P) hl' (by rw [hrec]; simp)
        refine ⟨some c, w2.putObj (B + 1) (.loop { rec .done (some c) with state := .exhausted }), by rw [hend, hrec], ?_⟩
        have hq := hstop B _ c pre _ H1 hi (hT2.rec_ (r' := { rec .done (some c) with state := .exhausted }))
        exact hq _ _ ⟨hf.size, by show _ ++ _ = _ :: ds; rw [hf.defers]; rfl, hf.get⟩ (hs2.putObj _ _)
    · -- one round
      rintro pre x F c K ⟨H1, rfl, hi⟩ hlen hTc wc hsc
      have hlw : wc.heap[B + 1]? = some (.loop (rec .ready none)) := by rw [hsc.heap]; exact hTc.recGet.2
      have hy := run_yield (P := P) (args := (encs x).toArray) hlw (by rw [hrec]; simpa using hps x)
      rw [hrec] at hy
      refine ⟨fn, _, assign, body, hy, roundIn_of_wpIn (n := 0) trivial ?_⟩
      clear hy
      have hft : Fits n (E x) ⟨[], some (B + 1)⟩ { tmps := (ps.zip (encs x)).foldl (fun t (x : Tmp × Value) => t.setIfInBounds x.1 x.2) a.tmps, defers := [] } :=
        fits_ps ps (encs x) e (E x) a.tmps ⟨hf.size, rfl, hf.get⟩ (hE x)
      have has := hassign (B + 1) _ pre x F c H1 hi hlen hTc _ wc hft hsc
      have hzip : (ps.toArray.zip (encs x).toArray).foldl (fun tmps (t, a) => tmps.setIfInBounds t a) a.tmps = (ps.zip (encs x)).foldl (fun t (x : Tmp × Value) => t.setIfInBounds x.1 x.2) a.tmps := by
        simp [List.zip_toArray]
      rw [hzip]
      refine wpIn_mono has ?_
      intro ex a1 w1 hq
      cases ex with
      | normal =>
        obtain ⟨y, c1, G2, hf1, hs1, hT1, hia⟩ := hq
        rw [← List.append_assoc] at hT1
        have hl1w : w1.heap[B + 1]? = some (.loop (rec .ready none)) := by rw [hs1.heap]; exact hT1.recGet.2
        refine ⟨_, run_beginRound hl1w (by rw [hrec]), ?_⟩
        have hT2 := hT1.recAt (r' := { rec .ready none with state := .busy })
        have hb := hbody (B + 1) _ pre x y G2 F _ H1 hi hlen hia (List.append_assoc .. ▸ hT2) _ _ hf1 (hs1.putObj _ _)
        refine wpIn_mono hb ?_
        have fin : ∀ (jump : Option Code) (c3 w3 : World) (H3 : List Asn), Sim c3 w3 → Tr m0 M0 X c3 (F ++ lpA B { rec .ready none with state := .busy } :: H3) →
            (Instr.endRound (B + 1) jump).run P w3 = .ok (.bool jump.isNone) (w3.putObj (B + 1) (.loop (rec (if jump.isNone then .ready else .done) jump))) ∧
            Tr m0 M0 X (c3.putObj (B + 1) (.loop (rec (if jump.isNone then .ready else .done) jump))) (F ++ lpA B (rec (if jump.isNone then .ready else .done) jump) :: H3) := fun jump c3 w3 H3 hs3 hT3 => by
          have hl3w : w3.heap[B + 1]? = some (.loop { rec .ready none with state := .busy }) := by rw [hs3.heap]; exact hT3.recGet.2
          have hend := run_endRound (P := P) jump hl3w
          rw [hrec] at hend ⊢
          exact ⟨hend, hT3.recAt⟩
        intro ex3 a3 w3 hq3
        cases ex3 with
        | normal =>
          obtain ⟨c3, H3, hs3, hT3, hi3⟩ := hq3
          obtain ⟨h1, h2⟩ := fin none c3 w3 H3 hs3 hT3
          exact ⟨_, _, h1, _, hs3.putObj _ _, _, h2, .inl ⟨rfl, H3, rfl, hi3⟩⟩
        | ret =>
          obtain ⟨c3, H3, hs3, hT3, hi3⟩ := hq3
          obtain ⟨h1, h2⟩ := fin (some .ret) c3 w3 H3 hs3 hT3
          exact ⟨_, _, h1, _, hs3.putObj _ _, _, h2, .inr ⟨rfl, H3, _, rfl, hi3⟩⟩
        | exit id =>
          obtain ⟨c3, H3, hs3, hT3, hi3⟩ := hq3
          obtain ⟨h1, h2⟩ := fin (some (.exit id)) c3 w3 H3 hs3 hT3
          exact ⟨_, _, h1, _, hs3.putObj _ _, _, h2, .inr ⟨rfl, H3, _, rfl, hi3⟩⟩
        | goto t => exact hq3.elim
        | panic ch => exact hq3.elim
        | outgrown => exact hq3.elim
      | exit id => exact hq.elim
      | goto t => exact hq.elim
      | ret => exact hq.elim
      | panic ch => exact hq.elim
      | outgrown => exact hq.elim
theorem QN.leaveT {P : Program} {fn : Func} {post : Ending → World → Prop} {m : World} {B : Nat} {rc : Loop} {r : Value} {x : Exit} (hx : x = .ret ∨ x = .normal) (hS : Tr m0 M0 X m (lpA B rc :: H))
    (h : ∀ m', Tr m0 M0 X m' H → Res P fn n e ⟨[{ target := .collected B, args := #[] }], none⟩ m' r ∧ post (.returned r) m') : QN (bodyQM P fn post) x n e ⟨[{ target := .collected B, args := #[] }], none⟩ m := by
  intro a w hf hs
  have hk := (Tr.recGet (F := []) hS).1
  have hkw : w.heap[B]? = some (.deferred (some [])) := by rw [hs.heap]; exact hk
  have key : LeavesInM Fence.wide 0 P fn a.tmps (fun e w' => ∃ m', Sim m' w' ∧ post e m') a.defers .returning w := by
    rw [hf.defers]
    refine ⟨by simp, .inl ⟨B, _, rfl, run_takeDeferred hkw, ?_⟩⟩
    obtain ⟨h1, h2⟩ := h (m.putObj B (.deferred none)) hS.leave
    exact ⟨r, h1 a _ hf (hs.putObj _ _), _, hs.putObj _ _, h2⟩
  rcases hx with rfl | rfl
  · exact key
  · exact key
end
end Go.Ev
end
section
namespace Go.Proofs.YtgpgladbdoimdaaGreatDoor
open Go.RowKit Go.Ev
set_option maxHeartbeats 1000000
theorem insN_cut {xs ys zs : List Value} {n i m : Nat} (hi : i ≤ n) (hx : xs.length = n * 1) (hy : ys.length = m * 1) :
    ((((xs.take (i * 1) ++ zs).take (i * 1) ++ ys ++ (xs.take (i * 1) ++ zs).drop (i * 1 + ys.length)).take ((i + m) * 1) ++ xs.drop (i * 1) ++ (((xs.take (i * 1) ++ zs).take (i * 1) ++ ys ++ (xs.take (i * 1) ++ zs).drop (i * 1 + ys.length))).drop ((i + m) * 1 + (xs.drop (i * 1)).length)).take ((n + m) * 1)) = xs.take (i * 1) ++ ys ++ xs.drop (i * 1) := by
  have h1 : (xs.take (i * 1)).length = i * 1 := by rw [List.length_take, hx]; omega
  have h2 : (xs.take (i * 1) ++ zs).take (i * 1) = xs.take (i * 1) := by rw [List.take_left' h1]
  rw [h2]
  have h3 : (xs.take (i * 1) ++ ys ++ (xs.take (i * 1) ++ zs).drop (i * 1 + ys.length)).take ((i + m) * 1) = xs.take (i * 1) ++ ys := by
    rw [List.take_left']; rw [List.length_append, h1, hy]; omega
  rw [h3, List.take_left']
  simp only [List.length_append, h1, hy, List.length_drop, hx]; omega
theorem insN_room {xs ys cur : List Value} {n i m : Nat} (hi : i ≤ n) (hx : cur.take (n * 1) = xs) (hl : xs.length = n * 1) (hy : ys.length = m * 1) (hc : cur.length ≥ (n + m) * 1) :
    ((cur.take ((i + m) * 1) ++ xs.drop (i * 1) ++ cur.drop ((i + m) * 1 + (xs.drop (i * 1)).length)).take (i * 1) ++ ys ++ (cur.take ((i + m) * 1) ++ xs.drop (i * 1) ++ cur.drop ((i + m) * 1 + (xs.drop (i * 1)).length)).drop (i * 1 + ys.length)).take ((n + m) * 1) = xs.take (i * 1) ++ ys ++ xs.drop (i * 1) := by
  have h1 : (cur.take ((i + m) * 1)).length = (i + m) * 1 := by rw [List.length_take]; omega
  have h2 : (cur.take ((i + m) * 1) ++ xs.drop (i * 1) ++ cur.drop ((i + m) * 1 + (xs.drop (i * 1)).length)).take (i * 1) = xs.take (i * 1) := by
    rw [List.append_assoc, List.take_append_of_le_length (by rw [h1]; omega), List.take_take, ← hx, List.take_take]
    congr 1; omega
  have h3 : (cur.take ((i + m) * 1) ++ xs.drop (i * 1) ++ cur.drop ((i + m) * 1 + (xs.drop (i * 1)).length)).drop (i * 1 + ys.length) = xs.drop (i * 1) ++ cur.drop ((i + m) * 1 + (xs.drop (i * 1)).length) := by
    rw [List.append_assoc, List.drop_left']; rw [h1, hy]; omega
  rw [h2, h3, ← List.append_assoc, List.take_left']
  simp only [List.length_append, List.length_take, List.length_drop, hl, hy]; omega
set_option maxRecDepth 20000 in
theorem insN_s (v u : Value) (S S2 : List Nat) (n i m : Nat) (xs ys : List Value) (hi : i ≤ n) (hm : 0 < m) (hb : n + m ≤ 1000000) (h1 : ∀ z ∈ xs, z.oneCell' = true) (h2 : ∀ z ∈ ys, z.oneCell' = true) :
    DoS Tryz.prog 263 [v, .int .i64 i, u] [ownA S 176 1 v n xs, ownA S2 176 1 u m ys] (fun r H => ∃ S', H = [ownA S' 176 1 r (n + m) (xs.take (i * 1) ++ ys ++ xs.drop (i * 1))]) := by
  intro m0 X hS
  have hx : xs.length = n * 1 := (hS.mem (A := ownA S 176 1 v n xs) (by simp)).1
  have hy : ys.length = m * 1 := (hS.mem (A := ownA S2 176 1 u m ys) (by simp)).1
  obtain ⟨A, c, rfl, hnc⟩ := hS.shape
  obtain ⟨B, c2, rfl, hmc⟩ := Tr.shape (hS.perm (List.Perm.swap ..))
  refine FnE.enter ⟨_, Tryz.func263, by kernel_rfl, by kernel_rfl⟩ Tryz.func263 rfl rfl ?_
  refine go ?_
  refine RL.sliceFrom T_ok (l := i) rfl rfl rfl rfl rfl hi rfl ?_
  refine go ?_
  refine WP.cond rfl (fun hc => ?_) (fun _ => ?_)
  · exact absurd hc (by simp; omega)
  refine go ?_
  refine WP.cond rfl (fun hc => ?_) (fun hc => ?_)
  · have hc : i = n := Int.ofNat.inj (eq_of_beq hc)
    subst hc
    refine go ?_
    have hS' := (hS.perm (List.Perm.swap ..))
    have hsl := hS.ownSl (t := 176) (sz := 1) (v := .slice B m c2) (nn := m) (xs := ys) (S := S2) (by simp)
    refine RL.appendM T_ok hS (k := m) ys rfl rfl rfl rfl rfl Sel.head (Src.of_sl hsl) hy h2 (by unfold maxLen; omega) (Nat.le_trans (Nat.mul_le_mul_right _ hb) (by decide)) ?_
    intro v' m' S' hS
    refine ⟨_, rfl, ?_⟩
    refine go ?_
    refine QN.ret1 rfl rfl ⟨_, rfl, [ownA S' 176 1 v' (i + m) (xs ++ ys)], ⟨S', by rw [← hx, List.take_length, List.drop_length, List.append_nil]⟩, ?_⟩
    exact Tr.drop (F := [ownA S2 176 1 (.slice B m c2) m ys]) hS
  have hin : i < n := by
    rcases Nat.lt_or_ge i n with h | h
    · exact h
    · have : i = n := by omega
      subst this
      simp at hc
  obtain ⟨g, cap, cur, hv, rfl, hnc', hcm, hcl, hct, hS⟩ := hS.unrow (by omega)
  cases hv
  have hS := hS.perm (List.Perm.swap ..)
  obtain ⟨g2, cap2, cur2, hv, rfl, hmc', hcm2, hcl2, hct2, hS⟩ := hS.unrow hm
  cases hv
  have hS := hS.perm (List.Perm.swap ..)
  have hne : g2 ≠ g := fun hh => by
    have := hS.hold.nd
    subst hh
    simp [ofps, blkA] at this
  have hcell : ∀ j z, xs[j]? = some z → cur[j]? = some z := fun j z hj => by
    rw [← hct, List.getElem?_take] at hj
    split at hj
    · exact hj
    · cases hj
  have hcell2 : ∀ j z, ys[j]? = some z → cur2[j]? = some z := fun j z hj => by
    rw [← hct2, List.getElem?_take] at hj
    split at hj
    · exact hj
    · cases hj
  refine go ?_
  have hw : IntKind.i64.wrap ((n : Int) + (m : Int)) = ((n + m : Nat) : Int) := by rw [wrap_i64_in _ (by omega) (by omega)]; omega
  have hw2 : IntKind.i64.wrap ((i : Int) + (m : Int)) = ((i + m : Nat) : Int) := by rw [wrap_i64_in _ (by omega) (by omega)]; omega
  have hci : ¬ c = i := by omega
  have hcim : i + m < n + m := by omega
  have hxd : (xs.drop (i * 1)).length = (n - i) * 1 := by rw [List.length_drop, hx]; omega
  refine WP.cond rfl (fun hc => ?_) (fun hc => ?_)
  · have hc : c < n + m := by rw [hw] at hc; have := of_decide_eq_true hc; omega
    refine go ?_
    refine RL.sliceTo T_ok (l := i) rfl rfl rfl rfl rfl (by omega) rfl ?_
    refine go ?_
    have hw3 : IntKind.i64.wrap (IntKind.i64.wrap ((n : Int) + (m : Int)) - (i : Int)) = ((n + m - i : Nat) : Int) := by rw [hw, wrap_i64_in _ (by omega) (by omega)]; omega
    refine RL.appendZeros T_ok hS (k := n + m - i) rfl rfl (xs.take (i * 1)) rfl rfl rfl hw3 (by omega) (by omega) (by unfold maxLen; omega) (Nat.le_trans (Nat.mul_le_mul_right _ (by omega)) (show 1000000 * _ ≤ _ by decide)) (by rw [List.length_take, hx]; exact Nat.min_eq_left (Nat.mul_le_mul_right _ hi)) ?_ ?_
    · intro j z hj
      rw [add_block, Nat.zero_add]
      refine Blk.cell (hS.mem (A := blkA g 176 cur) (by simp)) j (hcell j z ?_)
      rw [List.getElem?_take] at hj
      split at hj
      · exact hj
      · cases hj
    intro b cap' zs m' hS' hle hcm' hlz
    have hbS := hS'
    have hnd : b ≠ g ∧ b ≠ g2 := by
      have := hS'.hold.nd
      simp [ofps, blkA] at this
      exact this.1
    clear hS
    have hS := hS'
    rw [show i + (n + m - i) = n + m by omega] at hle
    refine ⟨_, rfl, ?_⟩
    rw [show i + (n + m - i) = n + m by omega]
    have hci' : ¬ cap' = i := by omega
    refine go ?_
    refine RL.sliceFrom T_ok (l := i) rfl rfl rfl rfl rfl (by omega) rfl ?_
    refine RL.eqv (v' := .slice (some ⟨b, i * 1, none⟩) (n + m - i) (cap' - i)) (by rw [if_neg hci']; simp [add_block] <;> rfl) ?_
    refine go ?_
    have hlen0 : (n + m) * 1 ≤ cap' * 1 := Nat.mul_le_mul_right _ hle
    refine RL.copyM T_ok hS ys rfl rfl rfl rfl (tb := 176) (cs := xs.take (i * 1) ++ zs) (by with_reducible repeat (first | exact zS .. | apply zO)) (by with_reducible repeat (first | exact Rep.head | apply Rep.tail)) (by rw [hy, show Nat.min m (n + m - i) = m from Nat.min_eq_left (by omega)]) ?_ (by rw [hy, hlz]; show _ ≤ cap' * 1; omega) h2 rfl ?_
    · intro j z hj
      rw [add_block, Nat.zero_add]
      exact Blk.cell (hS.mem (A := blkA g2 176 cur2) (by simp)) j (hcell2 j z hj)
    clear hS hbS hS'
    intro m1 hS
    refine go ?_
    refine RH.sliceFrom T_ok PanicOk.calm 4 (l := i + m) rfl (by kernel_rfl) rfl rfl rfl rfl hw2 (by omega) rfl ?_
    refine RH.eqv (v' := .slice (some ⟨b, (i + m) * 1, none⟩) (n + m - (i + m)) (cap' - (i + m))) (by rw [if_neg (by omega)]; simp [add_block] <;> rfl) ?_
    refine go ?_
    refine RH.sliceFrom T_ok PanicOk.calm 7 (l := i) rfl (by kernel_rfl) rfl rfl rfl rfl rfl (by omega) rfl ?_
    refine RH.eqv (v' := .slice (some ⟨g, i * 1, none⟩) (n - i) (c - i)) (by rw [if_neg hci]; simp [add_block] <;> rfl) ?_
    refine RH.only 8 rfl (by kernel_rfl) (fun _ => ?_)
    have hfit : (i + m) * 1 + (xs.drop (i * 1)).length ≤ ((xs.take (i * 1) ++ zs).take (i * 1) ++ ys ++ (xs.take (i * 1) ++ zs).drop (i * 1 + ys.length)).length := by
      simp only [List.length_append, List.length_take, List.length_drop, hy, hx] at hlz ⊢
      have h9 : min (i * 1) (n * 1) + zs.length = cap' * 1 := hlz
      omega
    have hmn : Nat.min (n - i) (n + m - (i + m)) = n - i := Nat.min_eq_left (by omega)
    refine RL.copyM T_ok hS (xs.drop (i * 1)) rfl rfl rfl rfl (tb := 176) (by with_reducible repeat (first | exact zS .. | apply zO)) (by with_reducible repeat (first | exact Rep.head | apply Rep.tail)) (by rw [hmn, hxd]) ?_ hfit (fun z hz => h1 z (List.mem_of_mem_drop hz)) rfl ?_
    · intro j z hj
      rw [add_block]
      refine Blk.cell (hS.mem (A := blkA g 176 cur) (by simp)) _ (hcell _ z ?_)
      rwa [List.getElem?_drop] at hj
    intro m2 hS
    refine RL.N1 (RF.last (by kernel_rfl) (QN.calm ?_))
    (with_reducible repeat (first | refine QN.B1 ?_ | refine QN.N1 ?_))
    refine go ?_
    have hfl : (((xs.take (i * 1) ++ zs).take (i * 1) ++ ys ++ (xs.take (i * 1) ++ zs).drop (i * 1 + ys.length)).take ((i + m) * 1) ++ xs.drop (i * 1) ++ (((xs.take (i * 1) ++ zs).take (i * 1) ++ ys ++ (xs.take (i * 1) ++ zs).drop (i * 1 + ys.length))).drop ((i + m) * 1 + (xs.drop (i * 1)).length)).length = cap' * 1 := by
      simp only [List.length_append, List.length_take, List.length_drop, hy, hx] at hlz ⊢
      have h9 : min (i * 1) (n * 1) + zs.length = cap' * 1 := hlz
      omega
    have hS := hS.rerow (nn := n + m) (sz := 1) hle hcm' hfl
    rw [insN_cut hi hx hy] at hS
    exact QN.ret1 rfl rfl ⟨_, rfl, _, ⟨[b], rfl⟩, Tr.drop (H := [_]) hS⟩
  · have hc : n + m ≤ c := by rw [hw] at hc; have := of_decide_eq_false hc; omega
    refine go ?_
    refine RL.sliceTo T_ok (l := n + m) rfl rfl rfl rfl hw (by omega) rfl ?_
    refine go ?_
    refine RL.sliceFrom T_ok (l := i + m) rfl rfl rfl rfl hw2 (by omega) rfl ?_
    refine RL.eqv (v' := .slice (some ⟨g, (i + m) * 1, none⟩) (n + m - (i + m)) (c - (i + m))) (by rw [if_neg (by omega)]; simp [add_block] <;> rfl) ?_
    have hc0 : 0 < c * 1 := Nat.mul_pos (by omega) (by decide)
    refine RL.overlaps T_ok hS (fn := Tryz.f280) (by kernel_rfl) (by kernel_rfl) (by kernel_rfl) (by kernel_rfl) (tS := 172) (tR := 4) (by kernel_rfl) rfl rfl rfl rfl (h1 := (by with_reducible repeat (first | exact zS .. | apply zO))) (h2 := (by with_reducible repeat (first | exact zS .. | apply zO))) hne (by omega) rfl ?_
    refine go ?_
    refine RH.sliceFrom T_ok PanicOk.calm 4 (l := i + m) rfl (by kernel_rfl) rfl rfl rfl rfl hw2 (by omega) rfl ?_
    refine RH.eqv (v' := .slice (some ⟨g, (i + m) * 1, none⟩) (n + m - (i + m)) (c - (i + m))) (by rw [if_neg (by omega)]; simp [add_block] <;> rfl) ?_
    refine go ?_
    refine RH.sliceFrom T_ok PanicOk.calm 7 (l := i) rfl (by kernel_rfl) rfl rfl rfl rfl rfl (by omega) rfl ?_
    refine RH.eqv (v' := .slice (some ⟨g, i * 1, none⟩) (n + m - i) (c - i)) (by rw [if_neg hci]; simp [add_block] <;> rfl) ?_
    refine RH.only 8 rfl (by kernel_rfl) (fun _ => ?_)
    have hcl' : cur.length ≥ (n + m) * 1 := by rw [hcl]; exact Nat.mul_le_mul_right _ hc
    have hmn : Nat.min (n + m - i) (n + m - (i + m)) = n - i := Nat.min_eq_right (by omega) |>.trans (by omega)
    refine RL.copyM T_ok hS (xs.drop (i * 1)) rfl rfl rfl rfl (tb := 176) (by with_reducible repeat (first | exact zS .. | apply zO)) (by with_reducible repeat (first | exact Rep.head | apply Rep.tail)) (by rw [hmn, hxd]) ?_ (by rw [hxd]; omega) (fun z hz => h1 z (List.mem_of_mem_drop hz)) rfl ?_
    · intro j z hj
      rw [add_block]
      refine Blk.cell (hS.mem (A := blkA g 176 cur) (by simp)) _ (hcell _ z ?_)
      rwa [List.getElem?_drop] at hj
    intro m2 hS
    refine RL.N1 (RF.last (by kernel_rfl) (QN.calm ?_))
    (with_reducible repeat (first | refine QN.B1 ?_ | refine QN.N1 ?_))
    refine go ?_
    refine RL.sliceFrom T_ok (l := i) rfl rfl rfl rfl rfl (by omega) rfl ?_
    refine RL.eqv (v' := .slice (some ⟨g, i * 1, none⟩) (n + m - i) (c - i)) (by rw [if_neg hci]; simp [add_block] <;> rfl) ?_
    refine go ?_
    have hl1 : (cur.take ((i + m) * 1) ++ xs.drop (i * 1) ++ cur.drop ((i + m) * 1 + (xs.drop (i * 1)).length)).length = c * 1 := by
      simp only [List.length_append, List.length_take, List.length_drop, hx]; omega
    refine RL.copyM T_ok hS ys rfl rfl rfl rfl (tb := 176) (by with_reducible repeat (first | exact zS .. | apply zO)) (by with_reducible repeat (first | exact Rep.head | apply Rep.tail)) (by rw [hy, show Nat.min m (n + m - i) = m from Nat.min_eq_left (by omega)]) ?_ (by rw [hy, hl1]; omega) h2 rfl ?_
    · intro j z hj
      rw [add_block, Nat.zero_add]
      exact Blk.cell (hS.mem (A := blkA g2 176 cur2) (by simp)) j (hcell2 j z hj)
    intro m3 hS
    refine go ?_
    have hS := hS.rerow (nn := n + m) (sz := 1) hc hcm (by
      simp only [List.length_append, List.length_take, List.length_drop, hy] at hl1 ⊢
      omega)
    rw [insN_room hi hct hx hy hcl'] at hS
    exact QN.ret1 rfl rfl ⟨_, rfl, _, ⟨[g], rfl⟩, Tr.drop (H := [_]) hS⟩
end Go.Proofs.YtgpgladbdoimdaaGreatDoor
end
