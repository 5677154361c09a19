/- Texts that belong together. -/
import Derived.Test.YtmjpcaiehfimgaaGreatDoorMMsgVR1
import Derived.Lay
import Derived.LaidMore
import Derived.Stop.Joined
import Derived.Lib.ValidLaws
import Derived.RangeFuncRecord
import Derived.RangeFuncOwn
import Derived.Scope
import Derived.Sort.Statements
section
namespace Go.Ev
open Go.RowKit
structure Asn where
  own : List Nat
  P : World → List Nat → Prop
  lt : ∀ {m : World} {M : List Nat}, P m M → ∀ k ∈ own, k < m.heap.size
  keep : ∀ {m m' : World} {M M' N : List Nat}, P m M → Ext m N m' → (∀ k ∈ own, k ∉ N) → (∀ k ∈ N, k < m.heap.size → k ∈ M) → (∀ k ∈ M', k ∈ M ∨ m.heap.size ≤ k) → P m' M'
theorem Asn.less (A : Asn) {m : World} {M M' : List Nat} (h : A.P m M) (hM : ∀ k ∈ M', k ∈ M ∨ m.heap.size ≤ k) : A.P m M' := A.keep h (Ext.refl m []) (by simp) (by simp) hM
def ofps (H : List Asn) : List Nat := H.flatMap Asn.own
theorem ofps_nil : ofps [] = [] := rfl
theorem ofps_cons (A : Asn) (H : List Asn) : ofps (A :: H) = A.own ++ ofps H := rfl
theorem ofps_append (H F : List Asn) : ofps (H ++ F) = ofps H ++ ofps F := by simp [ofps]
theorem mem_ofps {H : List Asn} {k : Nat} : k ∈ ofps H ↔ ∃ A ∈ H, k ∈ A.own := List.mem_flatMap
structure Aprt (m : World) (X : List Nat) (H : List Asn) : Prop where
  all : ∀ A ∈ H, A.P m (ofps H ++ X)
  nd : (ofps H).Nodup
  out : ∀ k ∈ ofps H, k ∉ X
structure Tr (m0 : World) (M0 X : List Nat) (m : World) (H : List Asn) : Prop where
  hold : Aprt m X H
  ext : Ext m0 M0 m
  fp : FpNew m0 M0 (ofps H)
  xlt : ∀ k ∈ X, k < m0.heap.size
  mx : ∀ k ∈ M0, k ∉ X
section
variable {m0 m m' : World} {M0 X : List Nat} {H H' F Pre : List Asn} {A B : Asn}
theorem Aprt.lt (h : Aprt m X H) : ∀ k ∈ ofps H, k < m.heap.size := fun k hk => by
  obtain ⟨A, hA, hk⟩ := mem_ofps.1 hk
  exact A.lt (h.all A hA) k hk
theorem Aprt.perm (h : Aprt m X H) (hp : H.Perm H') : Aprt m X H' := by
  have hf : (ofps H).Perm (ofps H') := hp.flatMap_right _
  exact ⟨fun A hA => A.less (h.all A (hp.mem_iff.2 hA)) (fun k hk => .inl (by rcases List.mem_append.1 hk with h1 | h1 <;> simp [h1, hf.mem_iff])), hf.nodup_iff.1 h.nd, fun k hk => h.out k (hf.mem_iff.2 hk)⟩
theorem Tr.perm (h : Tr m0 M0 X m H) (hp : H.Perm H') : Tr m0 M0 X m H' :=
  ⟨h.hold.perm hp, h.ext, fun k hk => h.fp k ((hp.flatMap_right _).mem_iff.2 hk), h.xlt, h.mx⟩
theorem Aprt.drop (h : Aprt m X (H ++ F)) : Aprt m X H := by
  have e := ofps_append H F
  exact ⟨fun A hA => A.less (h.all A (List.mem_append_left _ hA)) (fun k hk => .inl (by rw [e]; rcases List.mem_append.1 hk with h1 | h1 <;> simp [h1])),
    (List.nodup_append.1 (e ▸ h.nd)).1, fun k hk => h.out k (by rw [e]; exact List.mem_append_left _ hk)⟩
theorem Tr.drop (h : Tr m0 M0 X m (H ++ F)) : Tr m0 M0 X m H := ⟨h.hold.drop, h.ext, fun k hk => h.fp k (by rw [ofps_append]; exact List.mem_append_left _ hk), h.xlt, h.mx⟩
theorem Tr.tail (h : Tr m0 M0 X m (A :: H)) : Tr m0 M0 X m H := (h.perm (H' := H ++ [A]) (by simpa using (List.perm_append_comm (l₁ := [A]) (l₂ := H)))).drop
theorem Tr.start (h : Aprt m X H) (hx : ∀ k ∈ X, k < m.heap.size) : Tr m (ofps H) X m H := ⟨h, Ext.refl _ _, FpNew.refl _ _, hx, h.out⟩
theorem Tr.head (h : Tr m0 M0 X m (A :: H)) : A.P m (ofps (A :: H) ++ X) := h.hold.all A (zS ..)
theorem Tr.get (h : Tr m0 M0 X m H) (k : Nat) (hk : H[k]? = some A) : A.P m (ofps H ++ X) := h.hold.all A (List.mem_of_getElem? hk)
theorem Aprt.inner (h : Aprt m X (Pre ++ F)) : Aprt m (ofps F ++ X) Pre := by
  have e := ofps_append Pre F
  have hn := List.nodup_append.1 (e ▸ h.nd)
  refine ⟨fun A hA => A.less (h.all A (List.mem_append_left _ hA)) (fun k hk => .inl (by rw [e]; simpa [List.append_assoc] using hk)), hn.1, fun k hk hx => ?_⟩
  rcases List.mem_append.1 hx with h1 | h1
  · exact hn.2.2 k hk k h1 rfl
  · exact h.out k (by rw [e]; exact List.mem_append_left _ hk) h1
theorem Tr.inner (h : Tr m0 M0 X m (Pre ++ F)) : Tr m (ofps Pre) (ofps F ++ X) m Pre :=
  Tr.start h.hold.inner (fun k hk => by
    rcases List.mem_append.1 hk with h1 | h1
    · exact h.hold.lt k (by rw [ofps_append]; exact List.mem_append_right _ h1)
    · exact Nat.lt_of_lt_of_le (h.xlt k h1) h.ext.size)
theorem Tr.outer (h : Tr m0 M0 X m (Pre ++ F)) (h' : Tr m (ofps Pre) (ofps F ++ X) m' H') : Tr m0 M0 X m' (H' ++ F) := by
  have e := ofps_append Pre F
  have e' := ofps_append H' F
  have hn := List.nodup_append.1 (e ▸ h.hold.nd)
  refine ⟨⟨fun A hA => ?_, ?_, fun k hk hx => ?_⟩, h.ext.trans h'.ext (fun k hk => h.fp k (by rw [e]; exact List.mem_append_left _ hk)), ?_, h.xlt, h.mx⟩
  · rcases List.mem_append.1 hA with hA | hA
    · exact A.less (h'.hold.all A hA) (fun k hk => .inl (by rw [e'] at hk; simpa [List.append_assoc] using hk))
    · refine A.keep (h.hold.all A (List.mem_append_right _ hA)) h'.ext (fun k hk hq => hn.2.2 k hq k (mem_ofps.2 ⟨A, hA, hk⟩) rfl) (fun k hk _ => by rw [e]; simp [hk]) (fun k hk => ?_)
      rw [e', List.append_assoc] at hk
      rcases List.mem_append.1 hk with h1 | h1
      · rcases h'.fp k h1 with h2 | h2
        · exact .inl (by rw [e]; simp [h2])
        · exact .inr h2
      · exact .inl (by rw [e, List.append_assoc]; exact List.mem_append_right _ h1)
  · rw [e']
    exact List.nodup_append.2 ⟨h'.hold.nd, hn.2.1, fun a ha b hb hab => h'.hold.out a ha (List.mem_append_left _ (hab ▸ hb))⟩
  · rw [e'] at hk
    rcases List.mem_append.1 hk with h1 | h1
    · exact h'.hold.out k h1 (List.mem_append_right _ hx)
    · exact h.hold.out k (by rw [e]; exact List.mem_append_right _ h1) hx
  · intro k hk
    rw [e'] at hk
    rcases List.mem_append.1 hk with h1 | h1
    · rcases h'.fp k h1 with h2 | h2
      · exact h.fp k (by rw [e]; exact List.mem_append_left _ h2)
      · exact .inr (Nat.le_trans h.ext.size h2)
    · exact h.fp k (by rw [e]; exact List.mem_append_right _ h1)
theorem Tr.turn (h : Tr m0 M0 X m (A :: H)) (hP : A.P m (ofps (A :: H) ++ X) → B.P m (ofps (B :: H) ++ X)) (hsub : ∀ k ∈ B.own, k ∈ A.own) (hnd : B.own.Nodup) : Tr m0 M0 X m (B :: H) := by
  have hn := List.nodup_append.1 (ofps_cons A H ▸ h.hold.nd)
  refine ⟨⟨fun C hC => ?_, ?_, fun k hk => ?_⟩, h.ext, fun k hk => ?_, h.xlt, h.mx⟩
  · rcases List.mem_cons.1 hC with rfl | hC
    · exact hP h.head
    · refine C.less (h.hold.all C (zO _ hC)) (fun k hk => .inl ?_)
      simp only [ofps_cons, List.append_assoc, List.mem_append] at hk ⊢
      rcases hk with h1 | h1
      · exact .inl (hsub k h1)
      · exact .inr h1
  · rw [ofps_cons]
    exact List.nodup_append.2 ⟨hnd, hn.2.1, fun a ha b hb => hn.2.2 a (hsub a ha) b hb⟩
  · rw [ofps_cons] at hk
    rcases List.mem_append.1 hk with h1 | h1
    · exact h.hold.out k (by rw [ofps_cons]; exact List.mem_append_left _ (hsub k h1))
    · exact h.hold.out k (by rw [ofps_cons]; exact List.mem_append_right _ h1)
  · rw [ofps_cons] at hk
    rcases List.mem_append.1 hk with h1 | h1
    · exact h.fp k (by rw [ofps_cons]; exact List.mem_append_left _ (hsub k h1))
    · exact h.fp k (by rw [ofps_cons]; exact List.mem_append_right _ h1)
theorem Tr.more (h : Tr m0 M0 X m H) (hB : B.own = []) (hP : B.P m (ofps H ++ X)) : Tr m0 M0 X m (B :: H) := by
  have e : ofps (B :: H) = ofps H := by rw [ofps_cons, hB]; rfl
  exact ⟨⟨fun C hC => by rw [e]; rcases List.mem_cons.1 hC with rfl | hC; exact hP; exact h.hold.all C hC, e ▸ h.hold.nd, e ▸ h.hold.out⟩, h.ext, e ▸ h.fp, h.xlt, h.mx⟩
theorem Tr.new (h : Tr m0 M0 X m H) (hE : Ext m [] m') (hN : ∀ k ∈ B.own, m.heap.size ≤ k) (hnd : B.own.Nodup) (hP : B.P m' (ofps (B :: H) ++ X)) : Tr m0 M0 X m' (B :: H) := by
  have h' : Tr m (ofps []) (ofps H ++ X) m' [B] := by
    refine ⟨⟨fun C hC => ?_, by simpa [ofps] using hnd, fun k hk hx => ?_⟩, hE, fun k hk => .inr (hN k (by simpa [ofps] using hk)), fun k hk => ?_, fun k hk => by cases hk⟩
    · have : C = B := by simpa using hC
      subst this
      simpa [ofps] using hP
    · have h1 := hN k (by simpa [ofps] using hk)
      rcases List.mem_append.1 hx with h2 | h2
      · have := h.hold.lt k h2; omega
      · have := h.xlt k h2; have := h.ext.size; omega
    · rcases List.mem_append.1 hk with h2 | h2
      · exact h.hold.lt k h2
      · have := h.xlt k h2; have := h.ext.size; omega
  exact (show Tr m0 M0 X m ([] ++ H) from h).outer h'
theorem Tr.step (h : Tr m0 M0 X m (A :: H)) (hE : Ext m A.own m') (hN : FpNew m A.own B.own) (hnd : B.own.Nodup) (hout : ∀ k ∈ B.own, k ∈ ofps H ++ X → False) (hP : B.P m' (B.own ++ (ofps H ++ X))) : Tr m0 M0 X m' (B :: H) := by
  have e : ofps [A] = A.own := by simp [ofps]
  have h' : Tr m (ofps [A]) (ofps H ++ X) m' [B] := by
    have hi := Tr.inner (Pre := [A]) (F := H) h
    refine ⟨⟨fun C hC => ?_, by simpa [ofps] using hnd, fun k hk => by exact hout k (by simpa [ofps] using hk)⟩, e ▸ hE, fun k hk => by rw [e]; exact hN k (by simpa [ofps] using hk), hi.xlt, hi.mx⟩
    have : C = B := by simpa using hC
    subst this
    simpa [ofps] using hP
  exact Tr.outer (Pre := [A]) (F := H) h h'
theorem Tr.step_same (h : Tr m0 M0 X m (A :: H)) (hE : Ext m A.own m') (hown : B.own = A.own) (hP : B.P m' (ofps (A :: H) ++ X)) : Tr m0 M0 X m' (B :: H) := by
  have hn := List.nodup_append.1 (ofps_cons A H ▸ h.hold.nd)
  refine h.step hE (hown ▸ FpNew.refl _ _) (hown ▸ hn.1) (fun k hk hx => ?_) (by rw [hown, ← List.append_assoc]; exact hP)
  rw [hown] at hk
  rcases List.mem_append.1 hx with h1 | h1
  · exact hn.2.2 k hk k h1 rfl
  · exact h.hold.out k (by rw [ofps_cons]; exact List.mem_append_left _ hk) h1
end
def pickO {α : Type} : List Nat → List (Option α) → List α × List (Option α)
  | [], l => ([], l)
  | i :: is, l => match l[i]? with
    | some (some a) => let r := pickO is (l.set i none); (a :: r.1, r.2)
    | _ => pickO is l
def pick {α : Type} (is : List Nat) (l : List α) : List α × List α := let r := pickO is (l.map some); (r.1, r.2.filterMap id)
theorem pickO_perm {α : Type} : ∀ (is : List Nat) (l : List (Option α)), (l.filterMap id).Perm ((pickO is l).1 ++ (pickO is l).2.filterMap id)
  | [], l => by simp [pickO]
  | i :: is, l => by
    unfold pickO
    split
    · rename_i a h
      simp only
      refine List.Perm.trans ?_ (List.Perm.cons a (pickO_perm is (l.set i none)))
      have hlt := (List.getElem?_eq_some_iff.1 h).1
      have hg := (List.getElem?_eq_some_iff.1 h).2
      have h1 : l = l.take i ++ some a :: l.drop (i + 1) := by
        conv => lhs; rw [← List.take_append_drop i l, List.drop_eq_getElem_cons hlt, hg]
      have h2 : l.set i none = l.take i ++ none :: l.drop (i + 1) := List.set_eq_take_append_cons_drop .. |>.trans (by rw [if_pos hlt])
      rw [h2]
      conv => lhs; rw [h1]
      simp only [List.filterMap_append, List.filterMap_cons, id]
      exact List.perm_middle
    · exact pickO_perm is l
theorem pick_perm {α : Type} (is : List Nat) (l : List α) : l.Perm ((pick is l).1 ++ (pick is l).2) := by
  have := pickO_perm is (l.map some)
  simpa [pick, List.filterMap_map] using this
theorem Tr.pick {m0 m : World} {M0 X : List Nat} {H : List Asn} (h : Tr m0 M0 X m H) (is : List Nat) : Tr m0 M0 X m ((pick is H).1 ++ (pick is H).2) := h.perm (pick_perm is H)
def DoS (P : Program) (f : FuncId) (args : List Value) (Pre : List Asn) (Post : Value → List Asn → Prop) : Prop :=
  ∀ (m : World) (X : List Nat), Tr m (ofps Pre) X m Pre → FnR P f args m fun v m' => ∃ H', Post v H' ∧ Tr m (ofps Pre) X m' H'
def DoE (P : Program) (f : FuncId) (args : List Value) (Pre : List Asn) (Post : Ending → List Asn → Prop) : Prop :=
  ∀ (m : World) (X : List Nat), Tr m (ofps Pre) X m Pre → FnE P f args m fun e m' => ∃ H', Post e H' ∧ Tr m (ofps Pre) X m' H'
theorem DoS.mono {P : Program} {f : FuncId} {args : List Value} {Pre : List Asn} {Post Post' : Value → List Asn → Prop} (h : DoS P f args Pre Post) (hp : ∀ v H, Post v H → Post' v H) : DoS P f args Pre Post' :=
  fun m X hT => (h m X hT).mono fun v _ ⟨H', h1, h2⟩ => ⟨H', hp v H' h1, h2⟩
theorem DoS.at {P : Program} {f : FuncId} {args : List Value} {Pre F : List Asn} {Post : Value → List Asn → Prop} {m0 m : World} {M0 X : List Nat} (h : DoS P f args Pre Post) (hT : Tr m0 M0 X m (Pre ++ F)) :
    FnR P f args m fun v m' => ∃ H', Post v H' ∧ Tr m0 M0 X m' (H' ++ F) :=
  (h m _ hT.inner).mono fun _ _ ⟨H', h1, h2⟩ => ⟨H', h1, hT.outer h2⟩
theorem DoE.at {P : Program} {f : FuncId} {args : List Value} {Pre F : List Asn} {Post : Ending → List Asn → Prop} {m0 m : World} {M0 X : List Nat} (h : DoE P f args Pre Post) (hT : Tr m0 M0 X m (Pre ++ F)) :
    FnE P f args m fun v m' => ∃ H', Post v H' ∧ Tr m0 M0 X m' (H' ++ F) :=
  (h m _ hT.inner).mono fun _ _ ⟨H', h1, h2⟩ => ⟨H', h1, hT.outer h2⟩
def blkA (b : Nat) (t : TypeId) (cs : List Value) : Asn where
  own := [b]
  P := fun m _ => Blk m b t cs
  lt := fun h k hk => by have : k = b := by simpa using hk
                         subst this; exact h.lt
  keep := fun h hE hn _ _ => h.ext hE (hn b (by simp))
def roA (sz : Nat) (v : Value) (xs : List Value) : Asn where
  own := []
  P := fun m M => Sl m M sz v xs ∧ 0 < sz
  lt := fun _ k hk => by cases hk
  keep := fun h hE _ hN hM => ⟨(Sl.ext (h.1.less (M' := _) (fun k hk => .inl hk) h.2) (hE.mono (M' := _) hN) hM h.2), h.2⟩
def ownA (S : List Nat) (t : TypeId) (sz : Nat) (v : Value) (n : Nat) (xs : List Value) : Asn where
  own := S
  P := fun m _ => Own m S t sz v n xs
  lt := fun h k hk => h.lt k hk
  keep := fun h hE hn _ _ => h.ext hE hn
def pureA (p : Prop) : Asn where
  own := []
  P := fun _ _ => p
  lt := fun _ k hk => by cases hk
  keep := fun h _ _ _ _ => h
section
variable {m0 m m' : World} {M0 X : List Nat} {H : List Asn} {b sz n : Nat} {t : TypeId} {cs xs : List Value} {v : Value} {S : List Nat} {o : Obj}
theorem Tr.blk (h : Tr m0 M0 X m H) (k : Nat) (hk : H[k]? = some (blkA b t cs)) : Blk m b t cs := h.get k hk
theorem Tr.ro (h : Tr m0 M0 X m H) (k : Nat) (hk : H[k]? = some (roA sz v xs)) : Sl m (ofps H ++ X) sz v xs := (h.get k hk).1
theorem Tr.row (h : Tr m0 M0 X m H) (k : Nat) (hk : H[k]? = some (ownA S t sz v n xs)) : Own m S t sz v n xs := h.get k hk
theorem Own.nd (h : Own m S t sz v n xs) : S.Nodup := by
  rcases h.2 with ⟨_, _, _, rfl⟩ | ⟨g, _, _, _, _, _, _, _, _, rfl⟩ <;> simp
theorem Tr.alloc (h : Tr m0 M0 X m H) (hC : Chg m b (.cells cs.toArray t (0, 0)) m') (hb : b = m.heap.size) : Tr m0 M0 X m' (blkA b t cs :: H) :=
  h.new (hC.new (by omega)) (fun k hk => by have h1 : k = b := by simpa [blkA] using hk
                                            omega) (by simp [blkA]) hC.blk
theorem Tr.store {cs' : List Value} (h : Tr m0 M0 X m (blkA b t cs :: H)) (hC : Chg m b (.cells cs'.toArray t (0, 0)) m') : Tr m0 M0 X m' (blkA b t cs' :: H) :=
  h.step_same (A := blkA b t cs) (by simpa [blkA] using hC.ext) rfl hC.blk
theorem Tr.freeze (h : Tr m0 M0 X m (ownA S t sz v n xs :: H)) (hsz : 0 < sz) : Tr m0 M0 X m (roA sz v xs :: H) := by
  have hn := List.nodup_append.1 (ofps_cons _ _ ▸ h.hold.nd)
  refine h.turn (B := roA sz v xs) (fun hP => ⟨Own.sl hP (fun k hk hx => ?_), hsz⟩) (fun k hk => by cases hk) (by simp [roA])
  rw [ofps_cons] at hx
  rcases List.mem_append.1 hx with h1 | h1
  · rcases List.mem_append.1 h1 with h2 | h2
    · cases h2
    · exact hn.2.2 k hk k h2 rfl
  · exact h.hold.out k (by rw [ofps_cons]; exact List.mem_append_left _ hk) h1
theorem Tr.grow {S' : List Nat} {v' : Value} {n' : Nat} {xs' : List Value} (h : Tr m0 M0 X m (ownA S t sz v n xs :: H)) (hO : Own m' S' t sz v' n' xs') (hE : Ext m S m') (hF : FpNew m S S') : Tr m0 M0 X m' (ownA S' t sz v' n' xs' :: H) := by
  have hn := List.nodup_append.1 (ofps_cons _ _ ▸ h.hold.nd)
  refine h.step (A := ownA S t sz v n xs) hE hF hO.nd (fun k hk hx => ?_) hO
  rcases hF k hk with h1 | h1
  · rcases List.mem_append.1 hx with h2 | h2
    · exact hn.2.2 k h1 k h2 rfl
    · exact h.hold.out k (by rw [ofps_cons]; exact List.mem_append_left _ h1) h2
  · rcases List.mem_append.1 hx with h2 | h2
    · have := h.hold.lt k (by rw [ofps_cons]; exact List.mem_append_right _ h2); omega
    · have := h.xlt k h2; have := h.ext.size; omega
theorem Tr.made (h : Tr m0 M0 X m H) (hO : Own m' S t sz v n xs) (hN : New m S m') : Tr m0 M0 X m' (ownA S t sz v n xs :: H) :=
  h.new hN.1 (fun k hk => hN.ge k hk) hO.nd hO
theorem Tr.calm (h : Tr m0 M0 X m H) (hE : Ext m [] m') : Tr m0 M0 X m' H := (h.new (B := pureA True) hE (fun k hk => by cases hk) (by simp [pureA]) trivial).tail
theorem Tr.empty (h : Tr m0 M0 X m H) (t : TypeId) (sz : Nat) (A : Option Addr) : Tr m0 M0 X m (ownA [] t sz (.slice A 0 0) 0 [] :: H) :=
  h.new (B := ownA [] t sz (.slice A 0 0) 0 []) (Ext.refl m []) (fun k hk => by cases hk) (by simp [ownA]) (Own.empty m t sz A)
end
section
variable {P : Program} {T : Ty} {ops : Array Oper} {Q : Exit → Act → World → Prop} {rest : List Oper} {n : Nat} {e e' : Env} {D : Fr} {m0 m : World} {M0 X : List Nat} {H F Pre : List Asn}
  {d : Option Tmp} {x y : Operand} {t ty : TypeId} {pos : String} {aft : Array Edge} {g : Option (Nat × Bool)} {v : Value} {r : Row}
theorem RL.allocS (hT : T.Ok P) (hr : T.row t = some r) (hS : Tr m0 M0 X m H) {cs : List Value} (hcs : r.zero.cells = cs.toArray) (hg : gd ops e ⟨d, .alloc t, ty, pos, aft, g⟩ = some true)
    (h : ∀ b m', Tr m0 M0 X m' (blkA b t cs :: H) → ∃ e', putE n d (.pointer (some ⟨b, 0, none⟩)) e = some e' ∧ RL P ops Q rest n e' D m') : RL P ops Q (⟨d, .alloc t, ty, pos, aft, g⟩ :: rest) n e D m :=
  RL.alloc hT hr hg (fun b m' hb hC => h b m' (hS.alloc (hcs ▸ hC) hb))
theorem RL.boxS (hS : Tr m0 M0 X m H) {cs : List Value} (hx : e.ev x = some v) (hcs : v.cells = cs.toArray) (hg : gd ops e ⟨d, .box t x, ty, pos, aft, g⟩ = some true)
    (h : ∀ b m', Tr m0 M0 X m' (blkA b t cs :: H) → ∃ e', putE n d (.pointer (some ⟨b, 0, none⟩)) e = some e' ∧ RL P ops Q rest n e' D m') : RL P ops Q (⟨d, .box t x, ty, pos, aft, g⟩ :: rest) n e D m :=
  RL.box hx hg (fun b m' hb hC => h b m' (hS.alloc (hcs ▸ hC) hb))
end
inductive Sel (A : Asn) : List Asn → List Asn → Prop
  | head {H : List Asn} : Sel A (A :: H) H
  | tail {B : Asn} {H H' : List Asn} : Sel A H H' → Sel A (B :: H) (B :: H')
theorem Sel.perm {A : Asn} {H H' : List Asn} (h : Sel A H H') : H.Perm (A :: H') := by
  induction h with
  | head => exact .refl _
  | tail _ ih => exact (ih.cons _).trans (.swap ..)
inductive Sels : List Asn → List Asn → List Asn → Prop
  | nil {H : List Asn} : Sels [] H H
  | ro {A : Asn} {Pre H F : List Asn} : A ∈ H → A.own = [] → Sels Pre H F → Sels (A :: Pre) H F
  | own {A : Asn} {Pre H H1 F : List Asn} : Sel A H H1 → Sels Pre H1 F → Sels (A :: Pre) H F
theorem Sels.tr {m0 m : World} {M0 X : List Nat} {Pre H F : List Asn} (h : Sels Pre H F) : ∀ (G : List Asn), Tr m0 M0 X m (G ++ H) → Tr m0 M0 X m (G ++ (Pre ++ F)) := by
  induction h with
  | nil => intro G h; exact h
  | @ro A Pre H F hA ho _ ih =>
    intro G h
    have h1 : Tr m0 M0 X m (A :: (G ++ H)) := h.more ho (h.hold.all A (List.mem_append_right _ hA))
    have h2 := ih (G ++ [A]) (h1.perm (by
      rw [List.append_assoc]
      exact (List.perm_middle (l₁ := G) (a := A) (l₂ := H)).symm))
    simpa [List.append_assoc] using h2
  | @own A Pre H H1 F hs _ ih =>
    intro G h
    have h2 := ih (G ++ [A]) (h.perm (by rw [List.append_assoc]; exact (hs.perm.append_left G)))
    simpa [List.append_assoc] using h2
theorem Tr.sels {m0 m : World} {M0 X : List Nat} {Pre H F : List Asn} (h : Tr m0 M0 X m H) (hs : Sels Pre H F) : Tr m0 M0 X m (Pre ++ F) := hs.tr [] h
inductive Rep (A B : Asn) : List Asn → List Asn → Prop
  | head {H : List Asn} : Rep A B (A :: H) (B :: H)
  | tail {C : Asn} {H H' : List Asn} : Rep A B H H' → Rep A B (C :: H) (C :: H')
theorem Rep.perms {A B : Asn} {H H' : List Asn} (h : Rep A B H H') : ∃ F, H.Perm (A :: F) ∧ (B :: F).Perm H' := by
  induction h with
  | @head H => exact ⟨H, .refl _, .refl _⟩
  | @tail C _ _ _ ih =>
    obtain ⟨F, h1, h2⟩ := ih
    exact ⟨C :: F, (h1.cons C).trans (.swap ..), (List.Perm.swap ..).trans (h2.cons C)⟩
inductive AllIn (H : List Asn) : List Asn → Prop
  | nil : AllIn H []
  | cons {A : Asn} {L : List Asn} : A ∈ H → AllIn H L → AllIn H (A :: L)
theorem AllIn.mem {H L : List Asn} {A : Asn} (h : AllIn H L) (hA : A ∈ L) : A ∈ H := by
  induction h with
  | nil => cases hA
  | cons h1 _ ih =>
    rcases List.mem_cons.1 hA with rfl | h2
    · exact h1
    · exact ih h2
section
variable {m0 m m' : World} {M0 X : List Nat} {H H' : List Asn} {A : Asn}
theorem Tr.mem (h : Tr m0 M0 X m H) (hA : A ∈ H) : A.P m (ofps H ++ X) := h.hold.all A hA
theorem Tr.rep {b : Nat} {tb : TypeId} {cs cs' : List Value} (h : Tr m0 M0 X m H) (hr : Rep (blkA b tb cs) (blkA b tb cs') H H') (hC : Chg m b (.cells cs'.toArray tb (0, 0)) m') : Tr m0 M0 X m' H' := by
  obtain ⟨F, h1, h2⟩ := hr.perms
  exact ((h.perm h1).store hC).perm h2
theorem Tr.ros {L : List Asn} (h : Tr m0 M0 X m H) (hL : AllIn H L) (hro : ofps L = []) : Tr m0 M0 X m L :=
  ⟨⟨fun A hA => A.less (h.mem (hL.mem hA)) (fun k hk => .inl (by rw [hro] at hk; exact List.mem_append_right _ hk)), by rw [hro]; exact List.nodup_nil, (fun k hk => by rw [hro] at hk; cases hk)⟩, h.ext, (fun k hk => by rw [hro] at hk; cases hk), h.xlt, h.mx⟩
theorem Tr.nilRo (h : Tr m0 M0 X m H) (sz : Nat) (hsz : 0 < sz) : Tr m0 M0 X m (roA sz (.slice none 0 0) [] :: H) := h.more (B := roA sz (.slice none 0 0) []) rfl ⟨Sl.nil _ _ _, hsz⟩
theorem Tr.shape {S : List Nat} {t : TypeId} {sz n : Nat} {v : Value} {xs : List Value} (h : Tr m0 M0 X m (ownA S t sz v n xs :: H)) : ∃ A c, v = .slice A n c ∧ n ≤ c := Own.shape h.head
def JS (m0 : World) (M0 X : List Nat) (L : List Asn) (m : World) : Prop := ∃ H, Tr m0 M0 X m H ∧ AllIn H L
end
section
variable {P : Program} {T : Ty} {ops : Array Oper} {Q : Exit → Act → World → Prop} {l l' rest : List Oper} {n : Nat} {e e' : Env} {D : Fr} {ds : List Deferred} {m0 m : World} {M0 X : List Nat} {H H' F Pre L : List Asn}
  {d : Option Tmp} {x y : Operand} {t ty : TypeId} {pos : String} {aft : Array Edge} {g : Option (Nat × Bool)} {v : Value} {r : Row} {J : World → Prop} {fin : List Nat} {fuel : Nat} {listed : Array Bool}
theorem RL.autoP (hT : T.Ok P) (h : runA T ops n 60 e l = (e', l')) (_ : Nat.blt l'.length l.length = true) (hk : RL P ops Q l' n e' D m) : RL P ops Q l n e D m := runA_sound hT 60 e l e' l' h hk
theorem RL.loadM (hT : T.Ok P) (hS : Tr m0 M0 X m H) {b i : Nat} {tb : TypeId} {cs : List Value} (hg : gd ops e ⟨d, .load t x, ty, pos, aft, g⟩ = some true) (hx : e.ev x = some (.pointer (some ⟨b, i, none⟩))) (ht : T.plain t = true)
    (hk : blkA b tb cs ∈ H) (hc : cs[i]? = some v) (hp : putE n d v e = some e') (h : RL P ops Q rest n e' D m) : RL P ops Q (⟨d, .load t x, ty, pos, aft, g⟩ :: rest) n e D m :=
  RL.load hT hg hx ht (Blk.cell (hS.mem hk) i hc) hp h
theorem RL.lsM (hT : T.Ok P) (hS : Tr m0 M0 X m H) {b i k : Nat} {tb : TypeId} {cs vs : List Value} (hg : gd ops e ⟨d, .load t x, ty, pos, aft, g⟩ = some true) (hx : e.ev x = some (.pointer (some ⟨b, i, none⟩))) (ht : T.aggN t = some k)
    (hk : blkA b tb cs ∈ H) (hv : (cs.drop i).take k = vs) (hl : vs.length = k) (hp : putE n d (.agg vs.toArray) e = some e') (h : RL P ops Q rest n e' D m) : RL P ops Q (⟨d, .load t x, ty, pos, aft, g⟩ :: rest) n e D m := by
  subst hl
  refine RL.loadAgg hT vs hg hx ht (fun j u hu => ?_) hp h
  rw [add_block]
  refine Blk.cell (hS.mem hk) _ ?_
  have hj := (List.getElem?_eq_some_iff.1 hu).1
  rw [← hv, List.getElem?_take, if_pos hj, List.getElem?_drop] at hu
  exact hu
theorem RL.storeM (hT : T.Ok P) (hS : Tr m0 M0 X m H) {b i : Nat} {tb : TypeId} {cs : List Value} (hg : gd ops e ⟨d, .store t x y, ty, pos, aft, g⟩ = some true)
    (hx : e.ev x = some (.pointer (some ⟨b, i, none⟩))) (hy : e.ev y = some v) (ht : T.plain t = true) (h1 : v.oneCell' = true) (hp : putE n d undef e = some e') (hr : Rep (blkA b tb cs) (blkA b tb (cs.set i v)) H H') (hi : Nat.blt i cs.length = true)
    (h : ∀ m', Tr m0 M0 X m' H' → RL P ops Q rest n e' D m') : RL P ops Q (⟨d, .store t x y, ty, pos, aft, g⟩ :: rest) n e D m := by
  have hB : Blk m b tb cs := by
    obtain ⟨F, h1, _⟩ := hr.perms
    exact hS.mem (A := blkA b tb cs) (h1.mem_iff.2 (zS ..))
  exact RL.store hT hB (by simpa using hi) hg hx hy ht h1 hp (fun m' hC => h m' (hS.rep hr hC))
theorem RL.ssM (hT : T.Ok P) (hS : Tr m0 M0 X m H) {b i q : Nat} {tb : TypeId} {cs vs : List Value} (hg : gd ops e ⟨d, .store t x y, ty, pos, aft, g⟩ = some true)
    (hx : e.ev x = some (.pointer (some ⟨b, i, none⟩))) (hy : e.ev y = some (.agg vs.toArray)) (ht : T.aggN t = some q) (hq : vs.length = q) (h1 : vs.all Value.oneCell' = true) (hp : putE n d undef e = some e') (hr : Rep (blkA b tb cs) (blkA b tb (cs.take i ++ vs ++ cs.drop (i + q))) H H') (hi : Nat.ble (i + q) cs.length = true)
    (h : ∀ m', Tr m0 M0 X m' H' → RL P ops Q rest n e' D m') : RL P ops Q (⟨d, .store t x y, ty, pos, aft, g⟩ :: rest) n e D m := by
  have hB : Blk m b tb cs := by
    obtain ⟨F, h1, _⟩ := hr.perms
    exact hS.mem (A := blkA b tb cs) (h1.mem_iff.2 (zS ..))
  exact RL.storeAgg hT hB hg hx hy ht hq (Nat.le_of_ble_eq_true hi) (List.all_eq_true.1 h1) hp (fun m' hC => h m' (hS.rep hr hC))
theorem RL.callM {f : FuncId} {fo : Operand} {xs : Array Operand} {ts : Array TypeId} {fi ca : List Value} {vs al : List Value} {Post : Value → List Asn → Prop} (hS : Tr m0 M0 X m H) (hc : DoS P f al Pre Post)
    (hg : gd ops e ⟨d, .call ⟨.value fo, xs, ts⟩, ty, pos, aft, g⟩ = some true)
    (hfo : e.ev fo = some (.func (.func f) fi.toArray ca.toArray)) (hxs : e.evs xs.toList = some vs) (has : fi ++ vs ++ ca = al) (hs : Sels Pre H F)
    (h : ∀ v m' H', Post v H' → Tr m0 M0 X m' (H' ++ F) → ∃ e', putE n d v e = some e' ∧ RL P ops Q rest n e' D m') : RL P ops Q (⟨d, .call ⟨.value fo, xs, ts⟩, ty, pos, aft, g⟩ :: rest) n e D m :=
  RL.call hg hfo hxs has (hc.at (hS.sels hs)) (fun v m' ⟨H', h1, h2⟩ => h v m' H' h1 h2)
theorem RL.callEM {f : FuncId} {fo : Operand} {xs : Array Operand} {ts : Array TypeId} {fi ca : List Value} {vs al : List Value} {Post : Ending → List Asn → Prop} (hS : Tr m0 M0 X m H) (hc : DoE P f al Pre Post)
    (hg : gd ops e ⟨d, .call ⟨.value fo, xs, ts⟩, ty, pos, aft, g⟩ = some true)
    (hfo : e.ev fo = some (.func (.func f) fi.toArray ca.toArray)) (hxs : e.evs xs.toList = some vs) (has : fi ++ vs ++ ca = al) (hs : Sels Pre H F)
    (h : ∀ v m' H', Post (.returned v) H' → Tr m0 M0 X m' (H' ++ F) → ∃ e', putE n d v e = some e' ∧ RL P ops Q rest n e' D m')
    (hpan : ∀ ch m' H', Post (.panicked ch) H' → Tr m0 M0 X m' (H' ++ F) → QN Q (.panic ch) n e D m') (hout : ∀ H', ¬ Post .outgrown H') : RL P ops Q (⟨d, .call ⟨.value fo, xs, ts⟩, ty, pos, aft, g⟩ :: rest) n e D m :=
  RL.callE hg hfo hxs has (hc.at (hS.sels hs)) (fun v m' ⟨H', h1, h2⟩ => h v m' H' h1 h2) (fun ch m' ⟨H', h1, h2⟩ => hpan ch m' H' h1 h2) (fun _ ⟨H', h1, _⟩ => hout H' h1)
theorem RL.callPM {f : FuncId} {fo : Operand} {xs : Array Operand} {ts : Array TypeId} {fi ca : List Value} {vs al : List Value} {ch : List PanicEntry} (hS : Tr m0 M0 X m H) (hc : DoE P f al Pre (fun ed H => ed = .panicked ch ∧ H = []))
    (hg : gd ops e ⟨d, .call ⟨.value fo, xs, ts⟩, ty, pos, aft, g⟩ = some true)
    (hfo : e.ev fo = some (.func (.func f) fi.toArray ca.toArray)) (hxs : e.evs xs.toList = some vs) (has : fi ++ vs ++ ca = al) (hs : Sels Pre H F)
    (hpan : ∀ m', Tr m0 M0 X m' F → QN Q (.panic ch) n e D m') : RL P ops Q (⟨d, .call ⟨.value fo, xs, ts⟩, ty, pos, aft, g⟩ :: rest) n e D m :=
  RL.callEM hS hc hg hfo hxs has hs (fun _ _ _ h => by cases h.1) (fun ch' m' H' h hT => by
    obtain ⟨h1, rfl⟩ := h
    injection h1 with h1
    subst h1
    exact hpan m' hT) (fun _ h => by cases h.1)
theorem RL.append1M (hT : T.Ok P) (hS : Tr m0 M0 X m H) {te : TypeId} {d1 : Tmp} {S : List Nat} {s : Value} {nn k : Nat} {xs : List Value} {parts : Array (Nat × Operand)} (ys : List Operand) {us : List Value} (news : List Value) {ty1 : TypeId} {pos1 : String} {aft1 : Array Edge}
    (he : T.elem t = some (te, r)) (hparts : parts = (opsParts 0 ys).toArray) (hk : ys.length = k) (hne : Nat.blt 0 k = true) (hsm : Nat.ble k 16000 = true) (hnt : notTmp x d1 = true) (hd1 : Nat.blt d1 n = true)
    (hx : e.ev x = some s) (hus : e.evs ys = some us) (hcs : us.flatMap (·.cells.toList) = news) (hr : Sel (ownA S te r.size s nn xs) H F) (hu : ∀ u ∈ us, u.cells.size = r.size) (h1 : ∀ u ∈ news, u.oneCell' = true) (hmax : nn + k ≤ maxLen) (hbytes : (nn + k) * r.bytes ≤ 140737488355328)
    (h : ∀ b v' m' S', Tr m0 M0 X m' (ownA S' te r.size v' (nn + k) (xs ++ news) :: F) → ∃ e', putE n d v' ((d1, .slice (some ⟨b, 0, none⟩) k k) :: e) = some e' ∧ RL P ops Q rest n e' D m') :
    RL P ops Q (⟨some d1, .buildSlice t k parts, ty1, pos1, aft1, none⟩ :: ⟨d, .call ⟨.builtin .append, #[x, .tmp d1], #[t, t]⟩, ty, pos, aft, none⟩ :: rest) n e D m := by
  have hS' := hS.perm hr.perm
  exact RL.append1 hT ys (show Own m S te r.size s nn xs from hS'.head) news he hparts hk hne hsm hnt hd1 hx hus hu hcs h1 hmax hbytes (fun v' m' S' hO hE hF => h _ v' m' S' (hS'.grow hO hE hF))
theorem WP.drawS {id : Nat} {l : List Oper} (L : List Asn) (fin : List Nat) (hS : Tr m0 M0 X m H) (hL : AllIn H L) (hm : P.follows .mixedOrders = true) (hQ : PanicOk Q) (h : PanicOk Q → RH P l.toArray Q (JS m0 M0 X L) fin l.length (Array.replicate l.length false) n e ds m) : WP P (.region id l.toArray true) Q n e ⟨ds, none⟩ m :=
  WP.drawQ (JS m0 M0 X L) fin hm ⟨H, hS, hL⟩ hQ h
theorem RH.loadM (hT : T.Ok P) (hQ : PanicOk Q) (i : Nat) {b j : Nat} {tb : TypeId} {cs : List Value} (hi : ops[i]? = some ⟨d, .load t x, ty, pos, aft, g⟩) (hB : (Region.noSelect ops && takesB ops fin listed [i]) = true) (hg : gd ops e ⟨d, .load t x, ty, pos, aft, g⟩ = some true) (hx : e.ev x = some (.pointer (some ⟨b, j, none⟩))) (ht : T.plain t = true)
    (hk : blkA b tb cs ∈ L) (hc : cs[j]? = some v) (hp : putE n d v e = some e') (h : RH P ops Q (JS m0 M0 X L) fin fuel (listed.setIfInBounds i true) n e' ds m) : RH P ops Q (JS m0 M0 X L) fin (fuel + 1) listed n e ds m :=
  RH.load hT hQ i (fun _ ⟨_, hS, hL⟩ => Blk.cell (hS.mem (hL.mem hk)) j hc) hi hB hg hx ht hp h
theorem RH.loadSegM (hT : T.Ok P) (hQ : PanicOk Q) (i : Nat) {b j k : Nat} {tb : TypeId} {cs vs : List Value} (hi : ops[i]? = some ⟨d, .load t x, ty, pos, aft, g⟩) (hB : (Region.noSelect ops && takesB ops fin listed [i]) = true) (hg : gd ops e ⟨d, .load t x, ty, pos, aft, g⟩ = some true) (hx : e.ev x = some (.pointer (some ⟨b, j, none⟩))) (ht : T.aggN t = some k)
    (hk : blkA b tb cs ∈ L) (hv : (cs.drop j).take k = vs) (hl : vs.length = k) (hp : putE n d (.agg vs.toArray) e = some e') (h : RH P ops Q (JS m0 M0 X L) fin fuel (listed.setIfInBounds i true) n e' ds m) : RH P ops Q (JS m0 M0 X L) fin (fuel + 1) listed n e ds m := by
  subst hl
  refine RH.loadAgg hT hQ i vs (fun m' ⟨_, hS, hL⟩ q u hu => ?_) hi hB hg hx ht hp h
  rw [add_block]
  refine Blk.cell (hS.mem (hL.mem hk)) _ ?_
  have hj := (List.getElem?_eq_some_iff.1 hu).1
  rw [← hv, List.getElem?_take, if_pos hj, List.getElem?_drop] at hu
  exact hu
theorem RH.contM {i : Nat} (hS : Tr m0 M0 X m H) (hL : AllIn H L) (h : RH P ops Q (JS m0 M0 X L) fin fuel listed n e ds m) : QN (Exit.then (onlyK P ops Q (JS m0 M0 X L) fin i fuel listed) Q) .normal n e ⟨ds, none⟩ m := RH.cont ⟨H, hS, hL⟩ h
end
end Go.Ev
end
section
namespace Go.Ev
open Go.RowKit Go.WideShapes Go.ChangeShapes
section
variable {H : Type} {enc : TypeId × Value → H} {P : Program}
def World.undrawn (W : World) : World := { W with drawn := 0 }
theorem Sim.undrawn (W : World) : Sim (World.undrawn W) W := ⟨rfl, rfl, rfl, rfl, Nat.zero_le _⟩
theorem DoS.law {f : FuncId} {args : List Value} {Pre : List Asn} {Post : Value → List Asn → Prop} (h : DoS P f args Pre Post) (hP : ∀ r H', Post r H' → r = .bool true) (m : World) (ho : ofps Pre = []) (hp : ∀ A ∈ Pre, A.P m []) : FnR P f args m fun r m' => r = .bool true ∧ Ext m [] m' := by
  have hT : Tr m (ofps Pre) [] m Pre := Tr.start ⟨fun A hA => by rw [ho]; exact hp A hA, by rw [ho]; exact List.nodup_nil, fun k hk => by rw [ho] at hk; cases hk⟩ (fun _ h => by cases h)
  exact (h m [] hT).mono fun r m' ⟨H', hr, hT'⟩ => ⟨hP _ _ hr, by have := hT'.ext; rwa [ho] at this⟩
theorem law_liftL {a : Assume} {C : Checked} {os : Os} {f : FuncId} {fn : Func} {s : ChangeSpec} {conds : List PathCond} {apart fresh handsOn again : Bool} {tb : TypeId} {X : World → Array Value → Prop}
    (hX : ∀ (w w' : World) (args : Array Value), w.heap = w'.heap → X w args → X w' args)
    (own : ownKnob C.prog.godebug = none) (started : os.Started) (noInit : C.prog.inits.idxOf? f = none) (hfn : C.prog.funcs[f]? = some fn)
    (witness : ∃ (w : World) (tape : Tape) (i : Input), w.os = os ∧ (w.forCall tape i).Shaped C.prog ∧ i.vars = [] ∧ Input.okWide C.prog (w.forCall tape i) .any w.heap.size f i ∧
      ((s.pre enc C.prog fn conds apart (w.forCall tape i).memory i.args ∧ X (w.forCall tape i).memory i.args) ∧ sizedMet enc C.prog fn (OpenSpec.ofChange s) apart (w.forCall tape i).memory i.args) ∧ a.holds C.prog (lone (Frame.enter C.prog f i.args .normal) [] (w.forCall tape i)))
    (hl : laidOutB C.prog = true) (hts : fn.params.toList.all (fun t => C.prog.readableRec t && decide (t < C.prog.types.size)) = true)
    (hr : fn.resultTypes = #[tb]) (htb : C.prog.underlying tb = some .bool) (hv : s.vars = [])
    (hspec : ∀ ds : List (DataW H), ds.length = fn.params.toList.length → (s.fn H ds).results = [.lit (.bool true)] ∧ (s.fn H ds).args = ds ∧ (s.fn H ds).vars = [])
    (hc : ∀ (W : World) (base : Nat) (args : Array Value) (ds : List (DataW H)) (p : List MemPlace), (∀ (j : Nat) t v, fn.params[j]? = some t → args[j]? = some v → Value.okWide C.prog W .any base t v) →
      DataW.TrodAll enc C.prog W 0 (fun _ => true) true fn.params.toList args.toList ds p → (DataW.weightsEach C.prog fn.params.toList ds).all (· ≤ reachBytes) = true → X W args →
      FnR C.prog f args.toList (World.undrawn W) fun r m' => r = .bool true ∧ Ext (World.undrawn W) [] m') :
    ReturnsInHanded a C os f .any (fun w args => (s.pre enc C.prog fn conds apart w args ∧ X w args) ∧ sizedMet enc C.prog fn (OpenSpec.ofChange s) apart w args) (s.post enc C.prog fn apart fresh handsOn again) := by
  refine returnsInHanded_of_change_and hX own started noInit hfn witness ?_
  intro W base args ds gs before hval hW _ hw hx _
  have hW' := hW
  obtain ⟨p, q, hA, hV, rfl, hfz, hnd⟩ := hW
  rw [hv] at hV
  obtain ⟨rfl, rfl⟩ := trodVars_none hV
  have hvt : s.plain.varTypes C.prog = [] := by
    have : s.plain.vars = [] := hv
    simp [DataSpec.varTypes, this]
  rw [hvt, List.append_nil, List.append_nil] at hw
  have hlen : ds.length = fn.params.toList.length := trodAll_len hA
  obtain ⟨h1, h2, h3⟩ := hspec ds hlen
  have hF := hc W base args ds p hval hA hw hx
  refine (hF.2 W (Sim.undrawn W)).mono fun e W' ⟨m', hs, v, he, hvt, hE⟩ => ⟨v, he, ?_⟩
  subst hvt
  have hb : Below W.heap.size W W' := ⟨hs.os.trans hE.os, hs.tape.trans hE.tape, hs.output.trans hE.output, by rw [hs.heap]; exact hE.size, fun k hk => by rw [hs.heap]; exact hE.far k hk (by simp)⟩
  rw [List.append_nil] at hW'
  have hlt : ∀ x ∈ p, x.block < W.heap.size := fun x hx => hW'.lt x hx
  refine post_of_below' (pa := p) (pv := []) hW' (fun b sp hd => ?_) (fun sp hsp => ?_) (fun sp _ => ?_) (by simp) hb (ok_one hr rfl (okWide_bool_mk htb true))
  · rw [List.append_nil, h1, hr]
    exact trodAll_mk1 (shut_bool htb true)
  · rw [List.append_nil, h2]
    exact trodAll_carry hl hb hts hA hlt hsp
  · rw [List.append_nil, h3, hv]
    rfl
end
end Go.Ev
end
section
namespace Go.Ev
open Go.RowKit
section
variable {P : Program} {T : Ty} {ops : Array Oper} {Q : Exit → Act → World → Prop} {rest : List Oper} {n : Nat} {e e' : Env} {D : Fr} {m : World}
  {d : Option Tmp} {x : Operand} {t ty : TypeId} {pos : String} {aft : Array Edge} {g : Option (Nat × Bool)}
theorem freeze_heap (w : World) (b k : Nat) {cs : Array Value} {te : TypeId} (h : w.heap[b]? = some (.cells cs te (0, 0))) (j : Nat) :
    (w.freeze ⟨b, k, none⟩ 1).heap[j]? = if j = b then some (.cells cs te (k, k + 1)) else w.heap[j]? := by
  unfold World.freeze
  rw [if_neg (by decide)]
  show (w.heap.modify b _)[j]? = _
  rw [Array.getElem?_modify]
  by_cases hj : b = j
  · subst hj; rw [if_pos rfl, if_pos rfl, h]; rfl
  · rw [if_neg hj, if_neg (fun hh => hj hh.symm)]
end
end Go.Ev
namespace Go.Ev
open Go.RowKit
theorem Own.put {m : World} {S : List Nat} {t : TypeId} {v : Value} {n j : Nat} {xs : List Value} (h : Own m S t 1 v n xs) (hj : j < n) :
    ∃ g cap cur, v = .slice (some ⟨g, 0, none⟩) n cap ∧ Blk m g t cur ∧ S = [g] ∧ j < cur.length ∧ ∀ m' x, Chg m g (.cells (cur.set j x).toArray t (0, 0)) m' → Own m' S t 1 v n (xs.set j x) := by
  obtain ⟨g, cap, cur, rfl, hB, hcap, hcm, hcl, hct, rfl⟩ := h.at_ (by omega)
  refine ⟨g, cap, cur, rfl, hB, rfl, by omega, fun m' x hC => ⟨?_, .inr ⟨g, cap, _, rfl, hC.blk, hcap, hcm, by simpa using hcl, ?_, rfl⟩⟩⟩
  · rw [List.length_set]; exact h.1
  · rw [List.take_set, hct]
end Go.Ev
end
section
namespace Go.Ev
open Go.RowKit
theorem str_get (l : List UInt8) (k : Nat) (h : k < l.length) : (str l)[k]? = some l[k] := by
  have h1 : k < (str l).size := by show k < l.toArray.size; simpa using h
  rw [getElem?_pos (str l) k h1]
  congr 1
theorem str_sz (l : List UInt8) : (str l).size = l.length := by show l.toArray.size = _; simp
theorem str_extract (l : List UInt8) (a b : Nat) : (str l).extract a b = str ((l.take b).drop a) := by
  apply ByteArray.ext
  rw [ByteArray.data_extract]
  show l.toArray.extract a b = ((l.take b).drop a).toArray
  apply Array.ext'
  rw [Array.toList_extract, List.extract_eq_take_drop]
  simp [List.drop_take]
theorem str_data (l : List UInt8) : (str l).data.toList = l := by show l.toArray.toList = l; simp
section
variable {P : Program} {T : Ty} {ops : Array Oper} {Q : Exit → Act → World → Prop} {rest : List Oper} {n : Nat} {e e' : Env} {D : Fr} {m0 m : World} {M0 X : List Nat} {H : List Asn}
  {d : Option Tmp} {x y z : Operand} {t ty tx : TypeId} {pos : String} {aft : Array Edge} {g : Option (Nat × Bool)} {v : Value}
theorem isStr (hT : T.Ok P) (ht : (T.row t).map (·.k) = some .str) : P.underlying t = some .string := by
  obtain ⟨r, hr, hk⟩ := Option.map_eq_some_iff.1 ht
  have := (hT.row hr).k
  rw [hk] at this
  exact this
theorem RL.strAt (hT : T.Ok P) {l : List UInt8} {k : Nat} {j : Int} {kk : IntKind} (ht : (T.row t).map (·.k) = some .str) (hg : gd ops e ⟨d, .index t x y, ty, pos, aft, g⟩ = some true) (hx : e.ev x = some (.string (str l))) (hy : e.ev y = some (.int kk j)) (hj : j = (k : Int)) (hlt : k < l.length)
    (hp : putE n d (.int .u8 (l[k]).toNat) e = some e') (h : RL P ops Q rest n e' D m) : RL P ops Q (⟨d, .index t x y, ty, pos, aft, g⟩ :: rest) n e D m := by
  subst hj
  refine RL.value _ hg (fun a w hf _ => ?_) hp h
  simp [execOp, hf.ev hx, hf.ev hy, Instr.index, asIntOf, run_underlying (isStr hT ht), str_get l k hlt]
theorem RL.strFrom (hT : T.Ok P) {l : List UInt8} {k : Nat} {j : Int} {kk : IntKind} (ht : (T.row t).map (·.k) = some .str) (hg : gd ops e ⟨d, .slice t x (some y) none none, ty, pos, aft, g⟩ = some true) (hx : e.ev x = some (.string (str l))) (hy : e.ev y = some (.int kk j)) (hj : j = (k : Int)) (hle : k ≤ l.length)
    (hp : putE n d (.string (str (l.drop k))) e = some e') (h : RL P ops Q rest n e' D m) : RL P ops Q (⟨d, .slice t x (some y) none none, ty, pos, aft, g⟩ :: rest) n e D m := by
  subst hj
  refine RL.value _ hg (fun a w hf _ => ?_) hp h
  have h1 : (str l).extract k (str l).size = str (l.drop k) := by rw [str_extract, str_sz]; simp
  simp [execOp, hf.ev hx, hf.ev hy, Instr.sliceAt, Instr.slice, Instr.sliceBounds, Instr.sliceBound, asIntOf, run_underlying (isStr hT ht), str_sz, hle]
  rw [← h1, str_sz]
theorem RL.toBytes (hT : T.Ok P) (hS : Tr m0 M0 X m H) {l : List UInt8} {te : TypeId} (ht : (T.row tx).map (·.k) = some .str) (ht2 : (T.row t).map (·.k) = some (.sli te)) (ht3 : (T.row te).map (·.k) = some (.int .u8)) (hl : l.length ≤ maxLen)
    (hg : gd ops e ⟨d, .convert tx t x, ty, pos, aft, g⟩ = some true) (hx : e.ev x = some (.string (str l)))
    (h : ∀ v m', Tr m0 M0 X m' (roA 1 v (u8s l) :: H) → (∃ A c, v = .slice A l.length c) → ∃ e', putE n d v e = some e' ∧ RL P ops Q rest n e' D m') : RL P ops Q (⟨d, .convert tx t x, ty, pos, aft, g⟩ :: rest) n e D m := by
  obtain ⟨r2, hr2, hr2'⟩ := Option.map_eq_some_iff.1 ht2
  obtain ⟨r3, hr3, hr3'⟩ := Option.map_eq_some_iff.1 ht3
  have h1 := isStr hT ht
  have h2 := (hT.row hr2).k; rw [hr2'] at h2
  have h3 := (hT.row hr3).k; rw [hr3'] at h3
  refine RL.valueX (R := fun v m' => (∃ A c, v = .slice A l.length c) ∧ Tr m0 M0 X m' (roA 1 v (u8s l) :: H)) hg (fun a w hf hs => ?_) (fun v m' ⟨hA, hT'⟩ => h v m' hT' hA)
  obtain ⟨c, hc⟩ : ∃ c, grownCap w l.length 0 te = c := ⟨_, rfl⟩
  have hge : l.length ≤ c := hc ▸ grownCap_ge w l.length 0 te
  have hcm : c ≤ maxLen := hc ▸ grownCap_le_maxLen w l.length 0 te hl
  obtain ⟨cs, hcs⟩ : ∃ cs, cs = u8s l ++ List.replicate (c - l.length) (Value.int .u8 0) := ⟨_, rfl⟩
  obtain ⟨b, hb⟩ : ∃ b, b = w.heap.size := ⟨_, rfl⟩
  obtain ⟨w1, hw1⟩ : ∃ w1, w1 = w.drew.alloc (.cells cs.toArray te (0, 0)) := ⟨_, rfl⟩
  have hB : w1.heap[b]? = some (.cells cs.toArray te (0, 0)) := by subst hw1; subst hb; exact heap_alloc_new w.drew _
  have hh := freeze_heap w1 b cs.length hB
  refine ⟨.slice (some ⟨b, 0, none⟩) l.length c, w1.freeze ⟨b, cs.length, none⟩ 1, low m (w1.freeze ⟨b, cs.length, none⟩ 1), ?_, Sim.low _ _, ⟨_, _, rfl⟩, ?_⟩
  · have hsh : w1.shape? b = some (te, cs.length) := by
      unfold World.shape?
      rw [hB]; simp
    have e1 : ((str l).data.map fun b => Value.int .u8 b.toNat) ++ Array.replicate (c - (str l).size) (Value.int .u8 0) = cs.toArray := by
      subst hcs
      apply Array.ext'
      simp [str, u8s, ByteArray.size]
    simp only [execOp, convert, hf.ev hx, run_underlying h1, run_underlying h2, run_underlying h3, Sem.run_bind, Result.andThen_ok, Conv.stringToBytes]
    have hq : (choose (.appendCap (str l).size 0 te)).run P w = .ok c w.drew := by
      rw [← hc, str_sz]
      simp [grownCap, Question.forced]
    simp only [Sem.run_bind, hq, Result.andThen_ok, newRow, e1]
    subst hw1; subst hb
    simp [markStringish, hsh, str_sz]
  · have hE : Ext m [] (low m (w1.freeze ⟨b, cs.length, none⟩ 1)) := by
      have hsz : w1.heap.size = w.heap.size + 1 := by subst hw1; show (w.heap.push _).size = _; simp
      refine ⟨?_, ?_, ?_, ?_, fun j hj _ => ?_, ?_⟩
      · show (w1.freeze ⟨b, cs.length, none⟩ 1).os = _; unfold World.freeze; split <;> (subst hw1; exact hs.os)
      · show (w1.freeze ⟨b, cs.length, none⟩ 1).tape = _; unfold World.freeze; split <;> (subst hw1; exact hs.tape)
      · show (w1.freeze ⟨b, cs.length, none⟩ 1).output = _; unfold World.freeze; split <;> (subst hw1; exact hs.output)
      · have : (w1.freeze ⟨b, cs.length, none⟩ 1).heap.size = w1.heap.size := by unfold World.freeze; split <;> simp
        show _ ≤ (w1.freeze ⟨b, cs.length, none⟩ 1).heap.size
        rw [this, hsz, hs.size]; omega
      · have hjb : j ≠ b := by rw [hb, hs.size]; omega
        show (w1.freeze ⟨b, cs.length, none⟩ 1).heap[j]? = _
        rw [hh, if_neg hjb]
        subst hw1
        rw [Below.heap_alloc w.drew _ j (by show j < w.heap.size; rw [hs.size]; exact hj)]
        show w.heap[j]? = _
        rw [hs.heap]
      · have : (w1.freeze ⟨b, cs.length, none⟩ 1).drawn = w1.drawn := by unfold World.freeze; split <;> rfl
        refine dle.low ?_
        rw [this]; subst hw1; exact Nat.le_succ_of_le hs.drawn
    refine hS.new (B := roA 1 (.slice (some ⟨b, 0, none⟩) l.length c) (u8s l)) hE (fun k hk => by cases hk) (by simp [roA]) ⟨⟨_, _, _, rfl, hge, hcm, by simp [u8s], (fun hh => by cases hh), fun _ => ⟨_, rfl, ?_, fun j u hu => ?_⟩⟩, by omega⟩
    · show b ∉ _
      intro hx
      rw [ofps_cons] at hx
      have : b = m.heap.size := by rw [hb, hs.size]
      rcases List.mem_append.1 hx with h5 | h5
      · have := hS.hold.lt b (by simpa [roA] using h5); omega
      · have := hS.xlt b h5; have := hS.ext.size; omega
    · rw [add_block]
      have := hh b
      rw [if_pos rfl] at this
      have hjl : j < (u8s l).length := (List.getElem?_eq_some_iff.1 hu).1
      show (w1.freeze ⟨b, cs.length, none⟩ 1).cell? _ = _
      simp only [World.cell?, this]
      rw [hcs]
      simpa [List.getElem?_append, hjl] using hu
end
end Go.Ev
end
section
namespace Go.Ev
open Go.Lib
theorem wrap_i32 (x : Int) : IntKind.i32.wrap x = if x % 4294967296 ≥ 2147483648 then x % 4294967296 - 4294967296 else x % 4294967296 := by
  simp [IntKind.wrap, IntKind.signed, IntKind.bits]
theorem wrap_i32_in (x : Int) (h1 : -2147483648 ≤ x) (h2 : x ≤ 2147483647) : IntKind.i32.wrap x = x := by rw [wrap_i32]; split <;> omega
theorem and31_fin : ∀ x : Fin 256, bits .and .u8 (x.val : Int) 31 = ((x.val % 32 : Nat) : Int) := by decide +kernel
theorem and15_fin : ∀ x : Fin 256, bits .and .u8 (x.val : Int) 15 = ((x.val % 16 : Nat) : Int) := by decide +kernel
theorem and7_fin : ∀ x : Fin 256, bits .and .u8 (x.val : Int) 7 = ((x.val % 8 : Nat) : Int) := by decide +kernel
theorem and63_fin : ∀ x : Fin 256, bits .and .u8 (x.val : Int) 63 = ((x.val % 64 : Nat) : Int) := by decide +kernel
theorem and192_fin : ∀ x : Fin 256, decide (bits .and .u8 (x.val : Int) 192 = 128) = decide (x.val / 64 = 2) := by decide +kernel
theorem and31 (b : UInt8) : bits .and .u8 (b.toNat : Int) 31 = ((b.toNat % 32 : Nat) : Int) := and31_fin ⟨b.toNat, b.toNat_lt⟩
theorem and15 (b : UInt8) : bits .and .u8 (b.toNat : Int) 15 = ((b.toNat % 16 : Nat) : Int) := and15_fin ⟨b.toNat, b.toNat_lt⟩
theorem and7 (b : UInt8) : bits .and .u8 (b.toNat : Int) 7 = ((b.toNat % 8 : Nat) : Int) := and7_fin ⟨b.toNat, b.toNat_lt⟩
theorem and63 (b : UInt8) : bits .and .u8 (b.toNat : Int) 63 = ((b.toNat % 64 : Nat) : Int) := and63_fin ⟨b.toNat, b.toNat_lt⟩
theorem and192 (b : UInt8) : decide (bits .and .u8 (b.toNat : Int) 192 = 128) = decide (b.toNat / 64 = 2) := and192_fin ⟨b.toNat, b.toNat_lt⟩
theorem or_add_i32 (y n : Nat) (hn : n < 64) (h : y * 64 + n < 2147483648) : bits .or .i32 ((y * 64 : Nat) : Int) (n : Int) = ((y * 64 + n : Nat) : Int) := by
  have h2 : ∀ x : Nat, BitVec.ofInt IntKind.i32.bits (x : Int) = BitVec.ofNat 32 x := fun x => BitVec.ofInt_natCast ..
  show IntKind.i32.wrap ((BitVec.ofInt IntKind.i32.bits ((y * 64 : Nat) : Int) ||| BitVec.ofInt IntKind.i32.bits (n : Int)).toNat : Int) = _
  rw [h2, h2]
  show IntKind.i32.wrap ((BitVec.ofNat 32 (y * 64) ||| BitVec.ofNat 32 n : BitVec 32).toNat : Int) = _
  rw [BitVec.toNat_or, BitVec.toNat_ofNat, BitVec.toNat_ofNat, Nat.mod_eq_of_lt (by omega), Nat.mod_eq_of_lt (by omega)]
  have := (Nat.two_pow_add_eq_or_of_lt (i := 6) (b := n) hn y).symm
  rw [show y * 64 = 2 ^ 6 * y by omega, this, wrap_i32_in _ (by omega) (by omega)]
def nx (l : List UInt8) : Nat × Nat := if decodeL l = (65533, 1) then (0, 0) else decodeL l
def Lead (b k r low : Nat) : Prop := (194 ≤ b ∧ b < 224 ∧ k = 2 ∧ r = b % 32 ∧ low = 128) ∨ (224 ≤ b ∧ b < 240 ∧ k = 3 ∧ r = b % 16 ∧ low = 2048) ∨ (240 ≤ b ∧ b < 245 ∧ k = 4 ∧ r = b % 8 ∧ low = 65536)
def acc (l : List UInt8) (r : Nat) (i : Nat) : Nat := ((l.drop 1).take (i - 1)).foldl (fun a b => a * 64 + b.toNat % 64) r
theorem acc_one (l : List UInt8) (r : Nat) : acc l r 1 = r := rfl
theorem acc_succ (l : List UInt8) (r i : Nat) (h : i < l.length) (h1 : 1 ≤ i) : acc l r (i + 1) = acc l r i * 64 + l[i].toNat % 64 := by
  obtain ⟨j, rfl⟩ : ∃ j, i = j + 1 := ⟨i - 1, by omega⟩
  unfold acc
  have h2 : j < (l.drop 1).length := by rw [List.length_drop]; omega
  rw [Nat.add_sub_cancel, Nat.add_sub_cancel, List.take_succ_eq_append_getElem h2, List.foldl_append]
  have e : (l.drop 1)[j] = l[j + 1] := by simp
  simp only [List.foldl_cons, List.foldl_nil, e]
theorem acc_lt (l : List UInt8) (r : Nat) (hr : r < 32) : ∀ i, i + 1 ≤ l.length → acc l r (i + 1) < 32 * 64 ^ i
  | 0, _ => by simpa [acc_one] using hr
  | i + 1, h => by
    rw [acc_succ l r (i + 1) (by omega) (by omega)]
    have h1 := acc_lt l r hr i (by omega)
    have h2 : l[i + 1].toNat % 64 < 64 := Nat.mod_lt _ (by omega)
    rw [Nat.pow_succ]; omega
theorem getD_get {l : List UInt8} {i : Nat} (h : i < l.length) : l.getD i 0 = l[i] := by simp [List.getD, h]
theorem nx_ascii (l : List UInt8) (h : 0 < l.length) (hb : l[0].toNat < 128) : nx l = (l[0].toNat, 1) := by
  unfold nx
  rw [decodeL_N, getD_get h]
  unfold decodeN
  rw [if_pos hb, if_neg]
  intro hh
  have := congrArg Prod.fst hh
  simp only at this
  omega
theorem nx_none (l : List UInt8) (h : 0 < l.length) (h1 : 128 ≤ l[0].toNat) (h2 : ¬ ∃ k r low, Lead l[0].toNat k r low) : nx l = (0, 0) := by
  have hlt := l[0].toNat_lt
  have hb : l[0].toNat < 194 ∨ 245 ≤ l[0].toNat := by
    rcases Nat.lt_or_ge l[0].toNat 194 with g | g
    · exact .inl g
    · rcases Nat.lt_or_ge l[0].toNat 245 with g2 | g2
      · exfalso
        apply h2
        rcases Nat.lt_or_ge l[0].toNat 224 with g3 | g3
        · exact ⟨_, _, _, .inl ⟨g, g3, rfl, rfl, rfl⟩⟩
        · rcases Nat.lt_or_ge l[0].toNat 240 with g4 | g4
          · exact ⟨_, _, _, .inr (.inl ⟨g3, g4, rfl, rfl, rfl⟩)⟩
          · exact ⟨_, _, _, .inr (.inr ⟨g4, g2, rfl, rfl, rfl⟩)⟩
      · exact .inr g2
  unfold nx
  rw [decodeL_N, getD_get h, decodeN_bad _ _ _ _ _ (by omega), if_pos rfl]
def badR (r low : Nat) : Bool := decide (r < low) || (decide (1114111 < r) || (decide (55296 ≤ r) && decide (r < 57344)))
theorem badR_iff {r low : Nat} : badR r low = true ↔ r < low ∨ 1114111 < r ∨ (55296 ≤ r ∧ r < 57344) := by
  unfold badR
  rw [Bool.or_eq_true, Bool.or_eq_true, Bool.and_eq_true, decide_eq_true_iff, decide_eq_true_iff, decide_eq_true_iff, decide_eq_true_iff]
set_option maxRecDepth 10000 in
theorem nx_lead (l : List UInt8) {k r low : Nat} (h : 0 < l.length) (hL : Lead l[0].toNat k r low) :
    nx l = if k ≤ l.length ∧ (∀ i (hi : i < l.length), 1 ≤ i → i < k → l[i].toNat / 64 = 2) ∧ badR (acc l r k) low = false then (acc l r k, k) else (0, 0) := by
  have g1 : ∀ i, l.length ≤ i → (l.getD i 0).toNat = 0 := fun i hi => by simp [List.getD, hi]
  have key : decodeN l.length l[0].toNat (l.getD 1 0).toNat (l.getD 2 0).toNat (l.getD 3 0).toNat = (65533, 1) ∧ ¬ (k ≤ l.length ∧ (∀ i (hi : i < l.length), 1 ≤ i → i < k → l[i].toNat / 64 = 2) ∧ badR (acc l r k) low = false) ∨
      decodeN l.length l[0].toNat (l.getD 1 0).toNat (l.getD 2 0).toNat (l.getD 3 0).toNat = (acc l r k, k) ∧ (k ≤ l.length ∧ (∀ i (hi : i < l.length), 1 ≤ i → i < k → l[i].toNat / 64 = 2) ∧ badR (acc l r k) low = false) := by
    have a1 : acc l r 1 = r := rfl
    have a2 : 1 < l.length → acc l r 2 = r * 64 + (l.getD 1 0).toNat % 64 := fun hh => by
      rw [acc_succ l r 1 (by omega) (by omega), a1, getD_get (by omega)]
    have a3 : 2 < l.length → acc l r 3 = (r * 64 + (l.getD 1 0).toNat % 64) * 64 + (l.getD 2 0).toNat % 64 := fun hh => by
      rw [acc_succ l r 2 (by omega) (by omega), a2 (by omega), getD_get (show 2 < l.length by omega)]
    have a4 : 3 < l.length → acc l r 4 = ((r * 64 + (l.getD 1 0).toNat % 64) * 64 + (l.getD 2 0).toNat % 64) * 64 + (l.getD 3 0).toNat % 64 := fun hh => by
      rw [acc_succ l r 3 (by omega) (by omega), a3 (by omega), getD_get (show 3 < l.length by omega)]
    have q1 : ∀ i, i < l.length → ((∀ hi : i < l.length, l[i].toNat / 64 = 2) ↔ (l.getD i 0).toNat / 64 = 2) := fun i hi =>
      ⟨fun hh => by rw [getD_get (by omega)]; exact hh (by omega), fun hh hi => by rw [getD_get hi] at hh; exact hh⟩
    have hbad : ∀ r low, badR r low = false ↔ ¬ r < low ∧ ¬ 1114111 < r ∧ ¬ (55296 ≤ r ∧ r < 57344) := fun r low => by
      unfold badR
      simp only [Bool.or_eq_false_iff, decide_eq_false_iff_not, Bool.and_eq_false_iff]
      constructor
      · rintro ⟨x1, x2, x3⟩; exact ⟨x1, x2, by omega⟩
      · rintro ⟨x1, x2, x3⟩; exact ⟨x1, x2, by omega⟩
    rw [hbad]
    generalize hb1 : (l.getD 1 0).toNat = b1 at *
    generalize hb2 : (l.getD 2 0).toNat = b2 at *
    generalize hb3 : (l.getD 3 0).toNat = b3 at *
    have z1 : l.length ≤ 1 → b1 = 0 := fun hh => by rw [← hb1]; exact g1 1 hh
    have z2 : l.length ≤ 2 → b2 = 0 := fun hh => by rw [← hb2]; exact g1 2 hh
    have z3 : l.length ≤ 3 → b3 = 0 := fun hh => by rw [← hb3]; exact g1 3 hh
    rcases hL with ⟨h1, h2, rfl, rfl, rfl⟩ | ⟨h1, h2, rfl, rfl, rfl⟩ | ⟨h1, h2, rfl, rfl, rfl⟩
    · by_cases hc : 1 < l.length ∧ b1 / 64 = 2
      · right
        refine ⟨?_, by omega, fun i hi h3 h4 => ?_, ?_⟩
        · unfold decodeN
          rw [if_neg (by omega), if_pos (by omega), if_pos (by omega), a2 hc.1]
        · obtain rfl : i = 1 := by omega
          exact (q1 1 hc.1).2 (hb1.symm ▸ hc.2) hi
        · rw [a2 hc.1]; omega
      · left
        refine ⟨?_, fun hh => hc ⟨by omega, ?_⟩⟩
        · unfold decodeN
          rw [if_neg (by omega), if_neg (by omega), if_neg (by omega), if_neg (by omega)]
        · have := (q1 1 (by omega)).1 (fun hi => hh.2.1 1 hi (by omega) (by omega))
          rw [hb1] at this; exact this
    · by_cases hc : (1 < l.length ∧ b1 / 64 = 2) ∧ (2 < l.length ∧ b2 / 64 = 2)
      · have e : acc l (l[0].toNat % 16) 3 = l[0].toNat % 16 * 4096 + b1 % 64 * 64 + b2 % 64 := by rw [a3 hc.2.1]; omega
        by_cases hv : l[0].toNat % 16 * 4096 + b1 % 64 * 64 + b2 % 64 ≥ 2048 ∧ (l[0].toNat % 16 * 4096 + b1 % 64 * 64 + b2 % 64 < 55296 ∨ (57344 ≤ l[0].toNat % 16 * 4096 + b1 % 64 * 64 + b2 % 64 ∧ l[0].toNat % 16 * 4096 + b1 % 64 * 64 + b2 % 64 ≤ 1114111))
        · right
          refine ⟨?_, by omega, fun i hi h3 h4 => ?_, ?_⟩
          · unfold decodeN
            rw [if_neg (by omega), if_neg (by omega), if_pos (by omega), if_pos hv, e]
          · rcases (show i = 1 ∨ i = 2 by omega) with rfl | rfl
            · exact (q1 1 hc.1.1).2 (hb1.symm ▸ hc.1.2) hi
            · exact (q1 2 hc.2.1).2 (hb2.symm ▸ hc.2.2) hi
          · rw [e]; omega
        · left
          refine ⟨?_, fun hh => hv ?_⟩
          · unfold decodeN
            rw [if_neg (by omega), if_neg (by omega), if_pos (by omega), if_neg hv]
          · have := hh.2.2; rw [e] at this; omega
      · left
        refine ⟨?_, fun hh => hc ⟨⟨by omega, ?_⟩, by omega, ?_⟩⟩
        · unfold decodeN
          rw [if_neg (by omega), if_neg (by omega), if_neg (by omega), if_neg (by omega)]
        · have := (q1 1 (by omega)).1 (fun hi => hh.2.1 1 hi (by omega) (by omega))
          rw [hb1] at this; exact this
        · have := (q1 2 (by omega)).1 (fun hi => hh.2.1 2 hi (by omega) (by omega))
          rw [hb2] at this; exact this
    · by_cases hc : (1 < l.length ∧ b1 / 64 = 2) ∧ (2 < l.length ∧ b2 / 64 = 2) ∧ (3 < l.length ∧ b3 / 64 = 2)
      · have e : acc l (l[0].toNat % 8) 4 = l[0].toNat % 8 * 262144 + b1 % 64 * 4096 + b2 % 64 * 64 + b3 % 64 := by rw [a4 hc.2.2.1]; omega
        by_cases hv : l[0].toNat % 8 * 262144 + b1 % 64 * 4096 + b2 % 64 * 64 + b3 % 64 ≥ 65536 ∧ (l[0].toNat % 8 * 262144 + b1 % 64 * 4096 + b2 % 64 * 64 + b3 % 64 < 55296 ∨ (57344 ≤ l[0].toNat % 8 * 262144 + b1 % 64 * 4096 + b2 % 64 * 64 + b3 % 64 ∧ l[0].toNat % 8 * 262144 + b1 % 64 * 4096 + b2 % 64 * 64 + b3 % 64 ≤ 1114111))
        · right
          refine ⟨?_, by omega, fun i hi h3 h4 => ?_, ?_⟩
          · unfold decodeN
            rw [if_neg (by omega), if_neg (by omega), if_neg (by omega), if_pos (by omega), if_pos hv, e]
          · rcases (show i = 1 ∨ i = 2 ∨ i = 3 by omega) with rfl | rfl | rfl
            · exact (q1 1 hc.1.1).2 (hb1.symm ▸ hc.1.2) hi
            · exact (q1 2 hc.2.1.1).2 (hb2.symm ▸ hc.2.1.2) hi
            · exact (q1 3 hc.2.2.1).2 (hb3.symm ▸ hc.2.2.2) hi
          · rw [e]; omega
        · left
          refine ⟨?_, fun hh => hv ?_⟩
          · unfold decodeN
            rw [if_neg (by omega), if_neg (by omega), if_neg (by omega), if_pos (by omega), if_neg hv]
          · have := hh.2.2; rw [e] at this; omega
      · left
        refine ⟨?_, fun hh => hc ⟨⟨by omega, ?_⟩, ⟨by omega, ?_⟩, by omega, ?_⟩⟩
        · unfold decodeN
          rw [if_neg (by omega), if_neg (by omega), if_neg (by omega), if_neg (by omega)]
        · have := (q1 1 (by omega)).1 (fun hi => hh.2.1 1 hi (by omega) (by omega))
          rw [hb1] at this; exact this
        · have := (q1 2 (by omega)).1 (fun hi => hh.2.1 2 hi (by omega) (by omega))
          rw [hb2] at this; exact this
        · have := (q1 3 (by omega)).1 (fun hi => hh.2.1 3 hi (by omega) (by omega))
          rw [hb3] at this; exact this
  unfold nx
  rw [decodeL_N, getD_get h]
  rcases key with ⟨e, hc⟩ | ⟨e, hc⟩
  · rw [e, if_pos rfl, if_neg hc]
  · rw [e, if_pos hc, if_neg]
    intro hh
    have := congrArg Prod.snd hh
    simp only at this
    rcases hL with h1 | h1 | h1 <;> omega
def runesF : Nat → List UInt8 → Option (List Nat)
  | 0, l => if l = [] then some [] else none
  | n + 1, l => if l = [] then some [] else if (nx l).2 = 0 then none else (runesF n (l.drop (nx l).2)).map ((nx l).1 :: ·)
def runesL (l : List UInt8) : Option (List Nat) := runesF l.length l
theorem nx_width (l : List UInt8) (h : l ≠ []) : (nx l).2 = 0 ∨ (1 ≤ (nx l).2 ∧ (nx l).2 ≤ l.length) := by
  have hl : 0 < l.length := List.length_pos_iff.2 h
  by_cases hb : l[0].toNat < 128
  · rw [nx_ascii l hl hb]; right; simp only; omega
  · by_cases hL : ∃ k r low, Lead l[0].toNat k r low
    · obtain ⟨k, r, low, hL⟩ := hL
      rw [nx_lead l hl hL]
      split
      · rename_i hh
        right
        have : 1 ≤ k := by rcases hL with h1 | h1 | h1 <;> omega
        exact ⟨this, hh.1⟩
      · exact .inl rfl
    · rw [nx_none l hl (by omega) hL]; exact .inl rfl
theorem runesF_fuel : ∀ (n m : Nat) (l : List UInt8), l.length ≤ n → l.length ≤ m → runesF n l = runesF m l
  | 0, 0, _, _, _ => rfl
  | 0, m + 1, l, hn, _ => by
    have : l = [] := List.eq_nil_of_length_eq_zero (by omega)
    subst this; simp [runesF]
  | n + 1, 0, l, _, hm => by
    have : l = [] := List.eq_nil_of_length_eq_zero (by omega)
    subst this; simp [runesF]
  | n + 1, m + 1, l, hn, hm => by
    unfold runesF
    by_cases h : l = []
    · rw [if_pos h, if_pos h]
    · rw [if_neg h, if_neg h]
      rcases nx_width l h with h0 | h0
      · rw [if_pos h0, if_pos h0]
      · rw [if_neg (by omega), if_neg (by omega), runesF_fuel n m (l.drop (nx l).2) (by rw [List.length_drop]; omega) (by rw [List.length_drop]; omega)]
theorem runesL_nil : runesL [] = some [] := rfl
theorem runesL_step (l : List UInt8) (h : l ≠ []) : runesL l = if (nx l).2 = 0 then none else (runesL (l.drop (nx l).2)).map ((nx l).1 :: ·) := by
  obtain ⟨n, hn⟩ : ∃ n, l.length = n + 1 := ⟨l.length - 1, by have := List.length_pos_iff.2 h; omega⟩
  unfold runesL
  rw [hn]
  conv => lhs; unfold runesF
  rw [if_neg h]
  rcases nx_width l h with h0 | h0
  · rw [if_pos h0, if_pos h0]
  · rw [if_neg (by omega), if_neg (by omega), runesF_fuel n _ (l.drop (nx l).2) (by rw [List.length_drop]; omega) (Nat.le_refl _)]
theorem nx_zero (l : List UInt8) (h : l ≠ []) : (nx l).2 = 0 ↔ decodeL l = (65533, 1) := by
  have hl : 0 < l.length := List.length_pos_iff.2 h
  have := decodeL_width l
  unfold nx
  split
  · rename_i hh; simp [hh]
  · rename_i hh
    constructor
    · intro h0; omega
    · intro h0; exact absurd h0 hh
theorem nx_some (l : List UInt8) (h : (nx l).2 ≠ 0) : nx l = decodeL l := by
  unfold nx at *
  split at h
  · exact absurd rfl h
  · rename_i hh; rw [if_neg hh]
theorem valid_runes : ∀ (n : Nat) (l : List UInt8), l.length ≤ n → validD l = (runesL l).isSome
  | 0, l, h => by
    have : l = [] := List.eq_nil_of_length_eq_zero (by omega)
    subst this; rfl
  | n + 1, l, h => by
    by_cases hn : l = []
    · subst hn; rfl
    · rw [validD_step l hn, runesL_step l hn]
      by_cases h0 : decodeL l = (65533, 1)
      · rw [if_pos ((nx_zero l hn).2 h0), if_pos (by rw [h0]; exact ⟨rfl, rfl⟩)]; rfl
      · have h1 : (nx l).2 ≠ 0 := fun hh => h0 ((nx_zero l hn).1 hh)
        rw [if_neg h1, if_neg (fun hh => h0 (Prod.ext hh.1 hh.2))]
        have h2 := nx_some l h1
        rcases nx_width l hn with h3 | h3
        · exact absurd h3 h1
        · rw [← h2, valid_runes n (l.drop (nx l).2) (by rw [List.length_drop]; omega)]
          cases runesL (l.drop (nx l).2) <;> rfl
theorem valid_eq (l : List UInt8) : validD l = (runesL l).isSome := valid_runes l.length l (Nat.le_refl _)
end Go.Ev
end
section
namespace Go.Ids
structure Rng where
  c : Nat
  f : Nat
  t : Nat
  deriving DecidableEq
def num (n : Nat) : Bool := decide (1 ≤ n) && decide (n ≤ 9007199254740991)
def Rng.right (x : Rng) : Bool := num x.c && decide (1 ≤ x.f) && decide (x.f < x.t) && decide (x.t ≤ 9007199254740992)
def Rng.has (x : Rng) (c k : Nat) : Prop := x.right = true ∧ x.c = c ∧ x.f ≤ k ∧ k < x.t
def Rng.bef (x y : Rng) : Prop := x.c < y.c ∨ (x.c = y.c ∧ x.t < y.f)
def Canon (l : List Rng) : Prop := (∀ x ∈ l, x.right = true) ∧ l.Pairwise Rng.bef
theorem Canon.nil : Canon [] := ⟨(fun _ h => by cases h), List.Pairwise.nil⟩
theorem Canon.tail {x : Rng} {l : List Rng} (h : Canon (x :: l)) : Canon l := ⟨fun y hy => h.1 y (zO _ hy), (List.pairwise_cons.1 h.2).2⟩
theorem Canon.head {x : Rng} {l : List Rng} (h : Canon (x :: l)) : x.right = true := h.1 x (zS ..)
theorem Canon.behind {x y : Rng} {l : List Rng} (h : Canon (x :: l)) (hy : y ∈ l) : x.bef y := (List.pairwise_cons.1 h.2).1 y hy
def Rng.le (x y : Rng) : Prop := x.c < y.c ∨ (x.c = y.c ∧ x.f ≤ y.f)
def Rng.lt (x y : Rng) : Bool := decide (x.c < y.c) || (decide (x.c = y.c) && decide (x.f < y.f))
end Go.Ids
end
section
namespace Go.Ids
theorem Canon.take {l : List Rng} (h : Canon l) (i : Nat) : Canon (l.take i) := ⟨fun x hx => h.1 x (List.mem_of_mem_take hx), h.2.sublist (List.take_sublist i l)⟩
end Go.Ids
end
section
namespace Go.Ids
structure Clk where
  c : Nat
  k : Nat
  deriving DecidableEq, Inhabited
def Clk.num (x : Clk) : Bool := decide (1 ≤ x.c ∧ x.c ≤ 9007199254740991)
def Clk.at (x : Clk) (c : Nat) : Nat := if x.c = c ∧ 1 ≤ c ∧ c ≤ 9007199254740991 then min x.k 9007199254740991 else 0
def vat : List Clk → Nat → Nat
  | [], _ => 0
  | x :: l, c => max (x.at c) (vat l c)
theorem vat_append (a b : List Clk) (c : Nat) : vat (a ++ b) c = max (vat a c) (vat b c) := by
  induction a with
  | nil => simp [vat]
  | cons x a ih => simp only [List.cons_append, vat, ih]; omega
theorem vat_perm {a b : List Clk} (h : a.Perm b) (c : Nat) : vat a c = vat b c := by
  induction h with
  | nil => rfl
  | cons x _ ih => simp only [vat, ih]
  | swap x y l => simp only [vat]; omega
  | trans _ _ h1 h2 => exact h1.trans h2
theorem vat_le (l : List Clk) (c : Nat) : vat l c ≤ 9007199254740991 := by
  induction l with
  | nil => simp [vat]
  | cons x l ih =>
    have : x.at c ≤ 9007199254740991 := by unfold Clk.at; split <;> omega
    simp only [vat]; omega
theorem vat_mem : ∀ {l : List Clk} {c : Nat}, vat l c ≠ 0 → ∃ x ∈ l, x.c = c ∧ 1 ≤ c ∧ c ≤ 9007199254740991 ∧ 1 ≤ x.k
  | [], c, h => absurd rfl h
  | x :: l, c, h => by
    simp only [vat] at h
    by_cases h0 : x.at c = 0
    · obtain ⟨y, hy, h1⟩ := vat_mem (l := l) (c := c) (by omega)
      exact ⟨y, zO _ hy, h1⟩
    · unfold Clk.at at h0
      split at h0
      · rename_i hh
        exact ⟨x, zS .., hh.1, hh.2.1, hh.2.2, by omega⟩
      · exact absurd rfl h0
theorem vat_zero {l : List Clk} {c : Nat} (h : ∀ x ∈ l, x.at c = 0) : vat l c = 0 := by
  induction l with
  | nil => rfl
  | cons x l ih =>
    have h1 := h x (zS ..)
    have h2 := ih (fun y hy => h y (zO _ hy))
    simp only [vat, h1, h2]; rfl
def Clk.ok (x : Clk) : Prop := 1 ≤ x.c ∧ x.c ≤ 9007199254740991 ∧ 1 ≤ x.k ∧ x.k ≤ 9007199254740991
theorem Clk.ok.at {x : Clk} (h : x.ok) (c : Nat) : x.at c = if x.c = c then x.k else 0 := by
  unfold Clk.at
  by_cases h1 : x.c = c
  · subst h1
    rw [if_pos ⟨rfl, h.1, h.2.1⟩, if_pos rfl, Nat.min_eq_left h.2.2.2]
  · rw [if_neg h1, if_neg (fun hh => h1 hh.1)]
def VCanon (l : List Clk) : Prop := (∀ x ∈ l, x.ok) ∧ l.Pairwise fun x y => x.c < y.c
theorem VCanon.nil : VCanon [] := ⟨(fun _ h => by cases h), List.Pairwise.nil⟩
theorem VCanon.tail {x : Clk} {l : List Clk} (h : VCanon (x :: l)) : VCanon l := ⟨fun y hy => h.1 y (zO _ hy), (List.pairwise_cons.1 h.2).2⟩
theorem VCanon.behind {x y : Clk} {l : List Clk} (h : VCanon (x :: l)) (hy : y ∈ l) : x.c < y.c := (List.pairwise_cons.1 h.2).1 y hy
theorem VCanon.low {x : Clk} {l : List Clk} (h : VCanon (x :: l)) {c : Nat} (hc : c ≤ x.c) : vat l c = 0 := vat_zero fun y hy => by
  have := h.behind hy
  rw [(h.tail.1 y hy).at, if_neg (by omega)]
theorem VCanon.at_mem : ∀ {l : List Clk} {x : Clk}, VCanon l → x ∈ l → vat l x.c = x.k
  | [], _, _, h => by cases h
  | y :: l, x, hl, h => by
    rcases List.mem_cons.1 h with rfl | h
    · simp only [vat]
      rw [(hl.1 x (zS ..)).at, if_pos rfl, hl.low (Nat.le_refl _), Nat.max_zero]
    · have h1 := hl.behind h
      simp only [vat]
      rw [(hl.1 y (zS ..)).at, if_neg (by omega), Nat.zero_max]
      exact VCanon.at_mem hl.tail h
theorem vcanon_unique : ∀ {a b : List Clk}, VCanon a → VCanon b → (∀ c, vat a c = vat b c) → a = b
  | [], [], _, _, _ => rfl
  | [], y :: b, _, hb, h => by
    have h1 := h y.c
    rw [hb.at_mem (zS ..)] at h1
    have := (hb.1 y (zS ..)).2.2.1
    have : vat [] y.c = 0 := rfl
    omega
  | x :: a, [], ha, _, h => by
    have h1 := h x.c
    rw [ha.at_mem (zS ..)] at h1
    have := (ha.1 x (zS ..)).2.2.1
    have : vat [] x.c = 0 := rfl
    omega
  | x :: a, y :: b, ha, hb, h => by
    have hx := ha.1 x (zS ..)
    have hy := hb.1 y (zS ..)
    have h1 := ha.at_mem (zS ..)
    have h2 := hb.at_mem (zS ..)
    have lo : ∀ {u : Clk} {l : List Clk}, VCanon (u :: l) → ∀ c, c < u.c → vat (u :: l) c = 0 := fun {u l} hu c hc => by
      simp only [vat]
      rw [(hu.1 u (zS ..)).at, if_neg (by omega), hu.low (by omega)]; rfl
    have hc : x.c = y.c := by
      rcases Nat.lt_trichotomy x.c y.c with h3 | h3 | h3
      · have := lo hb x.c h3
        rw [← h, h1] at this
        have := hx.2.2.1; omega
      · exact h3
      · have := lo ha y.c h3
        rw [h, h2] at this
        have := hy.2.2.1; omega
    have hk : x.k = y.k := by rw [← h1, ← h2, h, hc]
    have hxy : x = y := by cases x; cases y; simp_all
    subst hxy
    have htl : ∀ c, vat a c = vat b c := fun c => by
      have h9 := h c
      simp only [vat] at h9
      rw [hx.at] at h9
      by_cases h0 : x.c = c
      · rw [ha.low (by omega), hb.low (by omega)]
      · rw [if_neg h0] at h9; omega
    rw [vcanon_unique ha.tail hb.tail htl]
def vput : List Clk → Clk → List Clk
  | [], x => [x]
  | y :: l, x => if x.c < y.c then x :: y :: l else if x.c = y.c then { y with k := max y.k x.k } :: l else y :: vput l x
theorem vput_spec : ∀ {l : List Clk} {x : Clk}, VCanon l → x.ok → VCanon (vput l x) ∧ (∀ c, vat (vput l x) c = max (vat l c) (x.at c)) ∧ ∀ y ∈ vput l x, (∃ z ∈ l, y.c = z.c) ∨ y.c = x.c
  | [], x, _, hx => ⟨⟨fun y hy => by have : y = x := by simpa [vput] using hy
                                     subst this; exact hx, by simp [vput]⟩, fun c => by simp [vput, vat], fun y hy => .inr (by have : y = x := by simpa [vput] using hy
                                                                                                                               rw [this])⟩
  | y :: l, x, hl, hx => by
    have hy := hl.1 y (zS ..)
    unfold vput
    by_cases h1 : x.c < y.c
    · rw [if_pos h1]
      refine ⟨⟨fun z hz => ?_, List.pairwise_cons.2 ⟨fun z hz => ?_, hl.2⟩⟩, fun c => ?_, fun z hz => ?_⟩
      · rcases List.mem_cons.1 hz with rfl | hz
        · exact hx
        · exact hl.1 z hz
      · rcases List.mem_cons.1 hz with rfl | hz
        · exact h1
        · have := hl.behind hz; omega
      · simp only [vat]; omega
      · rcases List.mem_cons.1 hz with rfl | hz
        · exact .inr rfl
        · exact .inl ⟨z, hz, rfl⟩
    · rw [if_neg h1]
      by_cases h2 : x.c = y.c
      · rw [if_pos h2]
        have hm : Clk.ok { y with k := max y.k x.k } := ⟨hy.1, hy.2.1, by have := hy.2.2.1; show 1 ≤ max y.k x.k; omega, by have := hy.2.2.2; have := hx.2.2.2; show max y.k x.k ≤ _; omega⟩
        refine ⟨⟨fun z hz => ?_, List.pairwise_cons.2 ⟨fun z hz => hl.behind hz, hl.tail.2⟩⟩, fun c => ?_, fun z hz => ?_⟩
        · rcases List.mem_cons.1 hz with rfl | hz
          · exact hm
          · exact hl.1 z (zO _ hz)
        · simp only [vat]
          rw [hm.at, hy.at, hx.at]
          simp only
          by_cases h3 : y.c = c
          · rw [if_pos h3, if_pos h3, if_pos (by omega)]; omega
          · rw [if_neg h3, if_neg h3, if_neg (by omega)]; omega
        · rcases List.mem_cons.1 hz with rfl | hz
          · exact .inr h2.symm
          · exact .inl ⟨z, zO _ hz, rfl⟩
      · rw [if_neg h2]
        obtain ⟨i1, i2, i3⟩ := vput_spec hl.tail hx
        refine ⟨⟨fun z hz => ?_, List.pairwise_cons.2 ⟨fun z hz => ?_, i1.2⟩⟩, fun c => ?_, fun z hz => ?_⟩
        · rcases List.mem_cons.1 hz with rfl | hz
          · exact hy
          · exact i1.1 z hz
        · rcases i3 z hz with ⟨w, hw, h3⟩ | h3
          · rw [h3]; exact hl.behind hw
          · omega
        · simp only [vat, i2]; omega
        · rcases List.mem_cons.1 hz with rfl | hz
          · exact .inl ⟨z, zS .., rfl⟩
          · rcases i3 z hz with ⟨w, hw, h3⟩ | h3
            · exact .inl ⟨w, zO _ hw, h3⟩
            · exact .inr h3
theorem vput_len : ∀ (l : List Clk) (x : Clk), (vput l x).length ≤ l.length + 1
  | [], x => by simp [vput]
  | y :: l, x => by
    unfold vput
    split
    · simp
    · split
      · simp
      · simp [vput_len l x]
def Clk.right (x : Clk) : Bool := decide (1 ≤ x.c) && (decide (x.c ≤ 9007199254740991) && decide (1 ≤ x.k))
theorem cright_iff {x : Clk} : x.right = true ↔ 1 ≤ x.c ∧ x.c ≤ 9007199254740991 ∧ 1 ≤ x.k := by simp [Clk.right]
def Clk.cut (x : Clk) : Clk := ⟨x.c, min x.k 9007199254740991⟩
theorem Clk.cut_ok {x : Clk} (h : x.right = true) : x.cut.ok := by
  have := cright_iff.1 h
  exact ⟨this.1, this.2.1, by show 1 ≤ min x.k _; omega, by show min x.k _ ≤ _; omega⟩
theorem Clk.cut_at (x : Clk) (c : Nat) : x.cut.at c = x.at c := by
  unfold Clk.at Clk.cut
  simp only
  split <;> omega
theorem at_wrong {x : Clk} (h : ¬ x.right = true) (c : Nat) : x.at c = 0 := by
  rw [cright_iff] at h
  unfold Clk.at
  split <;> omega
def vstep (L : List Clk) (x : Clk) : List Clk := if x.right = true then vput L x.cut else L
def vclean (l : List Clk) : List Clk := l.foldl vstep []
theorem vstep_spec {L : List Clk} (x : Clk) (h : VCanon L) : VCanon (vstep L x) ∧ (∀ c, vat (vstep L x) c = max (vat L c) (x.at c)) ∧ (vstep L x).length ≤ L.length + 1 := by
  unfold vstep
  split
  · rename_i hr
    obtain ⟨h1, h2, _⟩ := vput_spec h (Clk.cut_ok hr)
    exact ⟨h1, fun c => by rw [h2, Clk.cut_at], vput_len _ _⟩
  · rename_i hr
    exact ⟨h, fun c => by rw [at_wrong hr, Nat.max_zero], by omega⟩
theorem vfold_spec : ∀ (l L : List Clk), VCanon L → VCanon (l.foldl vstep L) ∧ (∀ c, vat (l.foldl vstep L) c = max (vat L c) (vat l c)) ∧ (l.foldl vstep L).length ≤ L.length + l.length
  | [], L, h => ⟨h, fun c => by simp [vat], by simp⟩
  | x :: l, L, h => by
    obtain ⟨h1, h2, h3⟩ := vstep_spec x h
    obtain ⟨g1, g2, g3⟩ := vfold_spec l (vstep L x) h1
    refine ⟨g1, fun c => ?_, ?_⟩
    · rw [List.foldl_cons, g2, h2]; simp only [vat]; omega
    · rw [List.foldl_cons, List.length_cons]; omega
theorem vclean_canon (l : List Clk) : VCanon (vclean l) := (vfold_spec l [] VCanon.nil).1
theorem vclean_at (l : List Clk) (c : Nat) : vat (vclean l) c = vat l c := by
  have := (vfold_spec l [] VCanon.nil).2.1 c
  have h0 : vat [] c = 0 := rfl
  unfold vclean
  rw [this, h0, Nat.zero_max]
theorem vclean_len (l : List Clk) : (vclean l).length ≤ l.length := by
  have := (vfold_spec l [] VCanon.nil).2.2
  simpa [vclean] using this
theorem vclean_eq {l L : List Clk} (h : VCanon L) (ha : ∀ c, vat L c = vat l c) : L = vclean l := vcanon_unique h (vclean_canon l) fun c => by rw [ha, vclean_at]
theorem vclean_congr {l l' : List Clk} (h : ∀ c, vat l c = vat l' c) : vclean l = vclean l' := vclean_eq (vclean_canon l) fun c => by rw [vclean_at, h]
theorem vclean_clean (l : List Clk) : vclean (vclean l) = vclean l := vclean_congr (vclean_at l)
def VCanonR (l : List Clk) : Prop := (∀ x ∈ l, x.ok) ∧ l.Pairwise fun x y => y.c < x.c
theorem VCanonR.reverse {l : List Clk} (h : VCanonR l) : VCanon l.reverse := ⟨fun x hx => h.1 x (List.mem_reverse.1 hx), List.pairwise_reverse.2 h.2⟩
theorem vat_reverse (l : List Clk) (c : Nat) : vat l.reverse c = vat l c := vat_perm (List.reverse_perm l) c
def vj : List Clk → Clk → List Clk
  | y :: r, x => if y.c = x.c then { y with k := max y.k x.k } :: r else x :: y :: r
  | [], x => [x]
theorem vj_cons (y : Clk) (r : List Clk) (x : Clk) : vj (y :: r) x = if y.c = x.c then { y with k := max y.k x.k } :: r else x :: y :: r := rfl
def vsw (R : List Clk) (x : Clk) : List Clk := if x.right = true then vj R x.cut else R
theorem vsw_spec {R : List Clk} {x : Clk} (h : VCanonR R) (hle : ∀ y ∈ R, y.c ≤ x.c) : VCanonR (vsw R x) ∧ (∀ c, vat (vsw R x) c = max (vat R c) (x.at c)) ∧ (∀ y ∈ vsw R x, y.c ≤ x.c) ∧ (vsw R x).length ≤ R.length + 1 := by
  unfold vsw
  split
  · rename_i hr
    have hx := Clk.cut_ok hr
    have hxc : x.cut.c = x.c := rfl
    cases R with
    | nil =>
      refine ⟨⟨fun y hy => ?_, by simp [vj]⟩, fun c => ?_, fun y hy => ?_, by simp [vj]⟩
      · have : y = x.cut := by simpa [vj] using hy
        subst this; exact hx
      · simp [vj, vat, Clk.cut_at]
      · have : y = x.cut := by simpa [vj] using hy
        subst this; exact Nat.le_refl _
    | cons y r =>
      have hy := h.1 y (zS ..)
      have hyx := hle y (zS ..)
      have hp := List.pairwise_cons.1 h.2
      rw [vj_cons]
      by_cases h1 : y.c = x.cut.c
      · rw [if_pos h1]
        have hm : Clk.ok { y with k := max y.k x.cut.k } := ⟨hy.1, hy.2.1, by have := hy.2.2.1; show 1 ≤ max y.k x.cut.k; omega, by have := hy.2.2.2; have := hx.2.2.2; show max y.k x.cut.k ≤ _; omega⟩
        refine ⟨⟨fun z hz => ?_, List.pairwise_cons.2 ⟨fun z hz => hp.1 z hz, hp.2⟩⟩, fun c => ?_, fun z hz => ?_, by simp⟩
        · rcases List.mem_cons.1 hz with rfl | hz
          · exact hm
          · exact h.1 z (zO _ hz)
        · rw [← Clk.cut_at x c]
          simp only [vat]
          rw [hm.at, hy.at, hx.at]
          simp only
          by_cases h3 : y.c = c
          · rw [if_pos h3, if_pos h3, if_pos (by omega)]; omega
          · rw [if_neg h3, if_neg h3, if_neg (by omega)]; omega
        · rcases List.mem_cons.1 hz with rfl | hz
          · exact hyx
          · exact hle z (zO _ hz)
      · rw [if_neg h1]
        refine ⟨⟨fun z hz => ?_, List.pairwise_cons.2 ⟨fun z hz => ?_, h.2⟩⟩, fun c => ?_, fun z hz => ?_, by simp⟩
        · rcases List.mem_cons.1 hz with rfl | hz
          · exact hx
          · exact h.1 z hz
        · rcases List.mem_cons.1 hz with rfl | hz
          · omega
          · have := hp.1 z hz; omega
        · simp only [vat, Clk.cut_at]; omega
        · rcases List.mem_cons.1 hz with rfl | hz
          · exact Nat.le_refl _
          · exact hle z hz
  · rename_i hr
    exact ⟨h, fun c => by rw [at_wrong hr, Nat.max_zero], hle, by omega⟩
structure VSw (pre R : List Clk) : Prop where
  canon : VCanonR R
  told : ∀ c, vat R c = vat pre c
  len : R.length ≤ pre.length
theorem VSw.nil : VSw [] [] := ⟨⟨(fun _ h => by cases h), List.Pairwise.nil⟩, fun _ => rfl, Nat.le_refl _⟩
theorem VSw.next {pre R : List Clk} {x : Clk} (h : VSw pre R) (hle : ∀ y ∈ R, y.c ≤ x.c) : VSw (pre ++ [x]) (vsw R x) ∧ ∀ y ∈ vsw R x, y.c ≤ x.c := by
  obtain ⟨h1, h2, h3, h4⟩ := vsw_spec h.canon hle
  refine ⟨⟨h1, fun c => ?_, ?_⟩, h3⟩
  · rw [h2, h.told, vat_append]; simp [vat]
  · have := h.len
    rw [List.length_append]; simp only [List.length_cons, List.length_nil]; omega
theorem VSw.done {l l' R : List Clk} (h : VSw l' R) (hp : l'.Perm l) : R.reverse = vclean l := vclean_eq h.canon.reverse fun c => by rw [vat_reverse, h.told, vat_perm hp]
end Go.Ids
end
section
namespace Go.Ev
open Go.RowKit
theorem rdU_enc (most : Nat) : ∀ (k : Nat) (d i n : Nat) (l : List UInt8), d < 128 ^ (k + 1) → n + d * 128 ^ i ≤ most → n + d * 128 ^ i < 18446744073709551616 → (0 < i → 0 < d) → rdU most i n (encU d ++ l) = .ok (n + d * 128 ^ i, l) := by
  intro k
  induction k with
  | zero =>
    intro d i n l hd hm h64 hi
    have hd : d < 128 := by simpa using hd
    rw [encU_small hd]
    have e : (UInt8.ofNat d).toNat = d := by rw [UInt8.toNat_ofNat', Nat.mod_eq_of_lt (by omega)]
    show rdU most i n (UInt8.ofNat d :: l) = _
    unfold rdU
    rw [e]
    have h9 : ¬ (i = 9 ∧ 1 < d) := by
      rintro ⟨rfl, h1⟩
      have : d * 128 ^ 9 ≥ 2 * 128 ^ 9 := Nat.mul_le_mul_right _ h1
      omega
    rw [if_neg h9, if_neg (by omega), if_neg (by omega), Nat.mod_eq_of_lt hd, if_neg (by omega)]
  | succ k ih =>
    intro d i n l hd hm h64 hi
    by_cases hs : d < 128
    · have e : (UInt8.ofNat d).toNat = d := by rw [UInt8.toNat_ofNat', Nat.mod_eq_of_lt (by omega)]
      rw [encU_small hs]
      show rdU most i n (UInt8.ofNat d :: l) = _
      unfold rdU
      rw [e]
      have h9 : ¬ (i = 9 ∧ 1 < d) := by
        rintro ⟨rfl, h1⟩
        have : d * 128 ^ 9 ≥ 2 * 128 ^ 9 := Nat.mul_le_mul_right _ h1
        omega
      rw [if_neg h9, if_neg (by omega), if_neg (by omega), Nat.mod_eq_of_lt hs, if_neg (by omega)]
    · rw [encU_big (by omega)]
      have e : (UInt8.ofNat (d % 128 + 128)).toNat = d % 128 + 128 := by rw [UInt8.toNat_ofNat', Nat.mod_eq_of_lt (by omega)]
      show rdU most i n (UInt8.ofNat (d % 128 + 128) :: (encU (d / 128) ++ l)) = _
      have h9 : i ≠ 9 := by
        rintro rfl
        have : d * 128 ^ 9 ≥ 128 * 128 ^ 9 := Nat.mul_le_mul_right _ (by omega)
        omega
      have hv : n + (d % 128 + 128) % 128 * 128 ^ i + d / 128 * 128 ^ (i + 1) = n + d * 128 ^ i := by
        have h1 : (d % 128 + 128) % 128 = d % 128 := by omega
        rw [h1, Nat.pow_succ, Nat.add_assoc]
        congr 1
        rw [Nat.mul_comm (128 ^ i) 128, ← Nat.mul_assoc, ← Nat.add_mul]
        congr 1; omega
      unfold rdU
      rw [e, if_neg (fun hh => h9 hh.1), if_pos (by omega)]
      have hlt : d / 128 < 128 ^ (k + 1) := by
        rw [Nat.pow_succ] at hd
        exact Nat.div_lt_of_lt_mul (by rw [Nat.mul_comm]; exact hd)
      rw [ih (d / 128) (i + 1) _ l hlt (by rw [hv]; exact hm) (by rw [hv]; exact h64) (fun _ => by omega), hv]
theorem rdU_back {most n : Nat} (l : List UInt8) (hm : n ≤ most) (h64 : n < 18446744073709551616) : rdU most 0 0 (encU n ++ l) = .ok (n, l) := by
  have := rdU_enc most 9 n 0 0 l (by omega) (by simpa using hm) (by simpa using h64) (by omega)
  simpa using this
end Go.Ev
end
section
namespace Go.Ids
open Go.Ev
def rdN (most : Nat) (s : List UInt8 × Int) : Nat × List UInt8 × Int := gR 0 s.2 s.1 (rdU most 0 0 s.1)
def badIf (p : Bool) (s : List UInt8 × Int) : List UInt8 × Int := if s.2 = 0 ∧ p = true then (s.1, 11) else s
theorem badIf_no {p : Bool} {s : List UInt8 × Int} (h : ¬ (s.2 = 0 ∧ p = true)) : badIf p s = s := if_neg h
theorem badIf_yes {p : Bool} {s : List UInt8 × Int} (h : s.2 = 0 ∧ p = true) : badIf p s = (s.1, 11) := if_pos h
theorem badIf_ok {p : Bool} {s : List UInt8 × Int} (h : (badIf p s).2 = 0) : s.2 = 0 ∧ p = false := by
  unfold badIf at h
  split at h
  · exact absurd h (by simp)
  · rename_i hh
    refine ⟨h, ?_⟩
    cases p
    · rfl
    · exact absurd ⟨h, rfl⟩ hh
theorem rdN_le (most : Nat) (s : List UInt8 × Int) : (rdN most s).1 ≤ most := by
  unfold rdN gR
  split
  · split
    · rename_i a l' h
      exact (rdU_most most _ 0 0 a l' h).1
    · exact Nat.zero_le _
  · exact Nat.zero_le _
def wrongStep (last more : Nat) : Bool := decide (more = 0 ∨ 9007199254740991 - last < more)
def vrdL : Nat → Nat → List Clk → List UInt8 × Int → List Clk × List UInt8 × Int
  | 0, _, out, s => (out, s)
  | n + 1, last, out, s =>
    if s.2 = 0 then
      let r1 := rdN 18446744073709551615 s
      let s1 := badIf (wrongStep last r1.1) r1.2
      let r2 := rdN 9007199254740991 s1
      let s2 := badIf (decide (r2.1 = 0)) r2.2
      let last' := (last + r1.1) % 18446744073709551616
      vrdL n last' (out ++ [⟨last', r2.1⟩]) s2
    else (out, s)
theorem vrdL_off {n last : Nat} {out : List Clk} {s : List UInt8 × Int} (h : s.2 ≠ 0) : vrdL n last out s = (out, s) := by
  cases n with
  | zero => rfl
  | succ n => unfold vrdL; rw [if_neg h]
theorem vrdL_step {n last : Nat} {out : List Clk} {s : List UInt8 × Int} (h : s.2 = 0) : vrdL (n + 1) last out s =
    vrdL n ((last + (rdN 18446744073709551615 s).1) % 18446744073709551616) (out ++ [⟨(last + (rdN 18446744073709551615 s).1) % 18446744073709551616, (rdN 9007199254740991 (badIf (wrongStep last (rdN 18446744073709551615 s).1) (rdN 18446744073709551615 s).2)).1⟩])
      (badIf (decide ((rdN 9007199254740991 (badIf (wrongStep last (rdN 18446744073709551615 s).1) (rdN 18446744073709551615 s).2)).1 = 0)) (rdN 9007199254740991 (badIf (wrongStep last (rdN 18446744073709551615 s).1) (rdN 18446744073709551615 s).2)).2) := by
  conv => lhs; unfold vrdL
  rw [if_pos h]
def vrd (s : List UInt8 × Int) : List Clk × List UInt8 × Int :=
  let r := vrdL (rdN 16384 s).1 0 [] (rdN 16384 s).2
  (if r.2.2 = 0 then r.1 else [], r.2)
theorem vrdL_len : ∀ (n last : Nat) (out : List Clk) (s : List UInt8 × Int), (vrdL n last out s).1.length ≤ out.length + n
  | 0, _, _, _ => Nat.le_refl _
  | n + 1, last, out, s => by
    by_cases h : s.2 = 0
    · rw [vrdL_step h]
      refine Nat.le_trans (vrdL_len n _ _ _) ?_
      rw [List.length_append]; simp; omega
    · rw [vrdL_off h]; simp
theorem vrd_len (s : List UInt8 × Int) : (vrd s).1.length ≤ 16384 := by
  have h1 := vrdL_len (rdN 16384 s).1 0 [] (rdN 16384 s).2
  have h2 := rdN_le 16384 s
  unfold vrd
  simp only
  split
  · simp only [List.length_nil] at h1; omega
  · simp
def encL : Nat → List Clk → List UInt8
  | _, [] => []
  | last, x :: l => encU (x.c - last) ++ (encU x.k ++ encL x.c l)
def encV (L : List Clk) : List UInt8 := encU L.length ++ encL 0 L
theorem encL_len (last : Nat) (L : List Clk) (h : ∀ x ∈ L, x.ok) : (encL last L).length ≤ 20 * L.length := by
  induction L generalizing last with
  | nil => simp [encL]
  | cons x L ih =>
    have hx := h x (zS ..)
    have h1 := encU_len10 (n := x.c - last) (by have := hx.2.1; omega)
    have h2 := encU_len10 (n := x.k) (by have := hx.2.2.2; omega)
    have h3 := ih x.c (fun y hy => h y (zO _ hy))
    simp only [encL, List.length_append, List.length_cons]; omega
theorem rdN_back {most n : Nat} (l : List UInt8) (hm : n ≤ most) (h64 : n < 18446744073709551616) : rdN most (encU n ++ l, 0) = (n, l, 0) := gR_ok (rdU_back l hm h64)
theorem encL_snoc : ∀ (L : List Clk) (last : Nat) (x : Clk), encL last (L ++ [x]) = encL last L ++ (encU (x.c - (L.getLast?.elim last Clk.c)) ++ encU x.k)
  | [], last, x => by simp [encL]
  | [y], last, x => by simp [encL]
  | y :: z :: L, last, x => by
    have := encL_snoc (z :: L) y.c x
    simp only [List.cons_append, encL] at this ⊢
    rw [this]
    obtain ⟨w, hw⟩ : ∃ w, (z :: L).getLast? = some w := by
      cases h : (z :: L).getLast? with
      | none => simp at h
      | some w => exact ⟨w, rfl⟩
    simp [hw]
theorem vrdL_back : ∀ (L : List Clk) (last : Nat) (out : List Clk) (more : List UInt8), VCanon L → (∀ x ∈ L, last < x.c) → vrdL L.length last out (encL last L ++ more, 0) = (out ++ L, more, 0)
  | [], last, out, more, _, _ => by simp [vrdL, encL]
  | x :: L, last, out, more, hL, hlt => by
    have hx := hL.1 x (zS ..)
    have h1 := hlt x (zS ..)
    obtain ⟨g1, g2, g3, g4⟩ := hx
    have e1 : rdN 18446744073709551615 (encL last (x :: L) ++ more, 0) = (x.c - last, encU x.k ++ (encL x.c L ++ more), 0) := by
      simp only [encL, List.append_assoc]
      exact rdN_back _ (by omega) (by omega)
    have e2 : wrongStep last (x.c - last) = false := decide_eq_false (by omega)
    have e3 : badIf false (encU x.k ++ (encL x.c L ++ more), (0 : Int)) = (encU x.k ++ (encL x.c L ++ more), 0) := badIf_no (by simp)
    have e4 : rdN 9007199254740991 (encU x.k ++ (encL x.c L ++ more), 0) = (x.k, encL x.c L ++ more, 0) := rdN_back _ g4 (by omega)
    have e5 : decide (x.k = 0) = false := decide_eq_false (by omega)
    have e6 : badIf false (encL x.c L ++ more, (0 : Int)) = (encL x.c L ++ more, 0) := badIf_no (by simp)
    have e7 : (last + (x.c - last)) % 18446744073709551616 = x.c := by omega
    rw [List.length_cons, vrdL_step rfl, e1]
    simp only
    rw [e2, e3, e4]
    simp only
    rw [e5, e6, e7, vrdL_back L x.c _ more hL.tail (fun y hy => hL.behind hy)]
    simp
theorem vrd_back (L : List Clk) (more : List UInt8) (hL : VCanon L) (hl : L.length ≤ 16384) : vrd (encV L ++ more, 0) = (L, more, 0) := by
  have e1 : rdN 16384 (encV L ++ more, 0) = (L.length, encL 0 L ++ more, 0) := by
    unfold encV
    rw [List.append_assoc]
    exact rdN_back _ hl (by omega)
  unfold vrd
  rw [e1]
  simp only
  rw [vrdL_back L 0 [] more hL (fun x hx => (hL.1 x hx).1)]
  simp
end Go.Ids
end
section
namespace Go.Ids
structure Trn where
  c : Nat
  f : Nat
  t : Nat
  n : Nat
  deriving DecidableEq
def Trn.right (x : Trn) : Bool := Rng.right ⟨x.c, x.f, x.t⟩ && num x.n
theorem tright_iff {x : Trn} : x.right = true ↔ 1 ≤ x.c ∧ x.c ≤ 9007199254740991 ∧ 1 ≤ x.f ∧ x.f < x.t ∧ x.t ≤ 9007199254740992 ∧ 1 ≤ x.n ∧ x.n ≤ 9007199254740991 := by
  simp [Trn.right, Rng.right, num, and_assoc]
def Trn.at (x : Trn) (c k : Nat) : Nat := if x.right = true ∧ x.c = c ∧ x.f ≤ k ∧ k < x.t then x.n else 0
def turnOf : List Trn → Nat → Nat → Nat
  | [], _, _ => 0
  | x :: l, c, k => max (x.at c k) (turnOf l c k)
theorem turnOf_append (a b : List Trn) (c k : Nat) : turnOf (a ++ b) c k = max (turnOf a c k) (turnOf b c k) := by
  induction a with
  | nil => simp [turnOf]
  | cons x a ih => simp only [List.cons_append, turnOf, ih]; omega
theorem turnOf_perm {a b : List Trn} (h : a.Perm b) (c k : Nat) : turnOf a c k = turnOf b c k := by
  induction h with
  | nil => rfl
  | cons x _ ih => simp only [turnOf, ih]
  | swap x y l => simp only [turnOf]; omega
  | trans _ _ h1 h2 => exact h1.trans h2
theorem turnOf_filter (l : List Trn) (c k : Nat) : turnOf (l.filter Trn.right) c k = turnOf l c k := by
  induction l with
  | nil => rfl
  | cons x l ih =>
    rw [List.filter_cons]
    split
    · simp only [turnOf, ih]
    · rename_i h
      have : x.at c k = 0 := if_neg (fun hh => h hh.1)
      simp only [turnOf, ih, this]; omega
theorem turnOf_reverse (l : List Trn) (c k : Nat) : turnOf l.reverse c k = turnOf l c k := turnOf_perm (List.reverse_perm l) c k
theorem turnOf_zero {l : List Trn} {c k : Nat} (h : ∀ x ∈ l, x.at c k = 0) : turnOf l c k = 0 := by
  induction l with
  | nil => rfl
  | cons x l ih =>
    have h1 := h x (zS ..)
    have h2 := ih (fun y hy => h y (zO _ hy))
    simp only [turnOf, h1, h2]; rfl
theorem turnOf_mem : ∀ {l : List Trn} {c k : Nat}, turnOf l c k ≠ 0 → ∃ x ∈ l, x.at c k = turnOf l c k
  | [], c, k, h => absurd rfl h
  | x :: l, c, k, h => by
    simp only [turnOf] at h ⊢
    by_cases h2 : x.at c k ≥ turnOf l c k
    · exact ⟨x, zS .., by omega⟩
    · obtain ⟨y, hy, h3⟩ := turnOf_mem (l := l) (c := c) (k := k) (by omega)
      exact ⟨y, zO _ hy, by omega⟩
theorem at_pos {x : Trn} {c k : Nat} (h : x.at c k ≠ 0) : x.right = true ∧ x.c = c ∧ x.f ≤ k ∧ k < x.t ∧ x.at c k = x.n := by
  unfold Trn.at at *
  split at h
  · rename_i hh; exact ⟨hh.1, hh.2.1, hh.2.2.1, hh.2.2.2, by rw [if_pos hh]⟩
  · exact absurd rfl h
theorem at_of {x : Trn} {c k : Nat} (h : x.right = true) (h1 : x.c = c) (h2 : x.f ≤ k) (h3 : k < x.t) : x.at c k = x.n := if_pos ⟨h, h1, h2, h3⟩
def Trn.bef (x y : Trn) : Prop := x.c < y.c ∨ (x.c = y.c ∧ (x.t < y.f ∨ (x.t = y.f ∧ x.n ≠ y.n)))
def TCanon (l : List Trn) : Prop := (∀ x ∈ l, x.right = true) ∧ l.Pairwise Trn.bef
theorem TCanon.nil : TCanon [] := ⟨(fun _ h => by cases h), List.Pairwise.nil⟩
theorem TCanon.tail {x : Trn} {l : List Trn} (h : TCanon (x :: l)) : TCanon l := ⟨fun y hy => h.1 y (zO _ hy), (List.pairwise_cons.1 h.2).2⟩
theorem TCanon.head {x : Trn} {l : List Trn} (h : TCanon (x :: l)) : x.right = true := h.1 x (zS ..)
theorem TCanon.behind {x y : Trn} {l : List Trn} (h : TCanon (x :: l)) (hy : y ∈ l) : x.bef y := (List.pairwise_cons.1 h.2).1 y hy
theorem TCanon.tail_zero {x : Trn} {l : List Trn} (h : TCanon (x :: l)) {c k : Nat} (hk : c < x.c ∨ (c = x.c ∧ k < x.t)) : turnOf l c k = 0 := by
  refine turnOf_zero fun y hy => ?_
  rcases Nat.eq_zero_or_pos (y.at c k) with h0 | h0
  · exact h0
  · obtain ⟨h1, h2, h3, h4, _⟩ := at_pos (Nat.ne_of_gt h0)
    exfalso
    rcases h.behind hy with h5 | ⟨h5, h6 | ⟨h6, _⟩⟩ <;> omega
theorem TCanon.head_at {x : Trn} {l : List Trn} (h : TCanon (x :: l)) {k : Nat} (h1 : x.f ≤ k) (h2 : k < x.t) : turnOf (x :: l) x.c k = x.n := by
  have e1 := at_of (c := x.c) h.head rfl h1 h2
  have e2 := h.tail_zero (c := x.c) (k := k) (.inr ⟨rfl, h2⟩)
  show max (x.at x.c k) (turnOf l x.c k) = x.n
  rw [e1, e2]; omega
theorem TCanon.low_zero {x : Trn} {l : List Trn} (h : TCanon (x :: l)) {c k : Nat} (hk : c < x.c ∨ (c = x.c ∧ k < x.f)) : turnOf (x :: l) c k = 0 := by
  have hr := tright_iff.1 h.head
  have e2 := h.tail_zero (c := c) (k := k) (by rcases hk with h1 | ⟨h1, h2⟩; exact .inl h1; exact .inr ⟨h1, by omega⟩)
  have e1 : x.at c k = 0 := if_neg (fun hh => by omega)
  show max (x.at c k) (turnOf l c k) = 0
  rw [e1, e2]; rfl
theorem TCanon.end_ne {x : Trn} {l : List Trn} (h : TCanon (x :: l)) : turnOf (x :: l) x.c x.t ≠ x.n := by
  have hr := tright_iff.1 h.head
  have e1 : x.at x.c x.t = 0 := if_neg (fun hh => by omega)
  show max (x.at x.c x.t) (turnOf l x.c x.t) ≠ x.n
  rw [e1]
  intro hh
  have h0 : turnOf l x.c x.t = x.n := by omega
  obtain ⟨y, hy, h1⟩ := turnOf_mem (l := l) (c := x.c) (k := x.t) (by omega)
  obtain ⟨g1, g2, g3, g4, g5⟩ := at_pos (x := y) (c := x.c) (k := x.t) (by omega)
  rcases h.behind hy with h5 | ⟨h5, h6 | ⟨h6, h7⟩⟩
  · omega
  · omega
  · omega
theorem tcanon_unique : ∀ {a b : List Trn}, TCanon a → TCanon b → (∀ c k, turnOf a c k = turnOf b c k) → a = b
  | [], [], _, _, _ => rfl
  | [], y :: b, _, hb, h => by
    have hr := tright_iff.1 hb.head
    have h1 := h y.c y.f
    rw [hb.head_at (Nat.le_refl _) (by omega)] at h1
    have : turnOf [] y.c y.f = 0 := rfl
    omega
  | x :: a, [], ha, _, h => by
    have hr := tright_iff.1 ha.head
    have h1 := h x.c x.f
    rw [ha.head_at (Nat.le_refl _) (by omega)] at h1
    have : turnOf [] x.c x.f = 0 := rfl
    omega
  | x :: a, y :: b, ha, hb, h => by
    have hx := tright_iff.1 ha.head
    have hy := tright_iff.1 hb.head
    have h1 := ha.head_at (Nat.le_refl x.f) (by omega)
    have h2 := hb.head_at (Nat.le_refl y.f) (by omega)
    have l1 : ¬ (x.c < y.c ∨ (x.c = y.c ∧ x.f < y.f)) := fun hh => by
      have := hb.low_zero (c := x.c) (k := x.f) hh
      rw [← h, h1] at this; omega
    have l2 : ¬ (y.c < x.c ∨ (y.c = x.c ∧ y.f < x.f)) := fun hh => by
      have := ha.low_zero (c := y.c) (k := y.f) hh
      rw [h, h2] at this; omega
    have hc : x.c = y.c := by omega
    have hf : x.f = y.f := by omega
    have hn : x.n = y.n := by rw [← h1, ← h2, h, hc, hf]
    have ht : x.t = y.t := by
      rcases Nat.lt_trichotomy x.t y.t with h3 | h3 | h3
      · exfalso
        have h4 := hb.head_at (k := x.t) (by omega) h3
        have h5 := ha.end_ne
        rw [h, hc, h4] at h5
        exact h5 hn.symm
      · exact h3
      · exfalso
        have h4 := ha.head_at (k := y.t) (by omega) h3
        have h5 := hb.end_ne
        rw [← h, ← hc, h4] at h5
        exact h5 hn
    have hxy : x = y := by cases x; cases y; simp_all
    subst hxy
    have htl : ∀ c k, turnOf a c k = turnOf b c k := fun c k => by
      have h9 := h c k
      simp only [turnOf] at h9
      by_cases h0 : x.at c k = 0
      · omega
      · obtain ⟨_, g2, g3, g4, _⟩ := at_pos h0
        rw [ha.tail_zero (.inr ⟨g2.symm, g4⟩), hb.tail_zero (.inr ⟨g2.symm, g4⟩)]
    rw [tcanon_unique ha.tail hb.tail htl]
def TCanonR (l : List Trn) : Prop := (∀ x ∈ l, x.right = true) ∧ l.Pairwise fun x y => Trn.bef y x
theorem TCanonR.reverse {l : List Trn} (h : TCanonR l) : TCanon l.reverse := ⟨fun x hx => h.1 x (List.mem_reverse.1 hx), List.pairwise_reverse.2 h.2⟩
def tj : List Trn → Trn → List Trn
  | y :: r, x => if y.c = x.c ∧ y.t = x.f ∧ y.n = x.n then { y with t := x.t } :: r else x :: y :: r
  | [], x => [x]
theorem tj_cons (y : Trn) (r : List Trn) (x : Trn) : tj (y :: r) x = if y.c = x.c ∧ y.t = x.f ∧ y.n = x.n then { y with t := x.t } :: r else x :: y :: r := rfl
theorem tj_spec {r : List Trn} {x : Trn} (h : TCanonR r) (hx : x.right = true) (hle : ∀ y ∈ r, y.c < x.c ∨ (y.c = x.c ∧ y.t ≤ x.f)) :
    TCanonR (tj r x) ∧ (∀ c k, turnOf (tj r x) c k = max (turnOf r c k) (x.at c k)) ∧ ∀ y ∈ tj r x, y.c < x.c ∨ (y.c = x.c ∧ y.t ≤ x.t) := by
  have gx := tright_iff.1 hx
  cases r with
  | nil =>
    refine ⟨⟨fun y hy => ?_, by simp [tj]⟩, fun c k => ?_, fun y hy => ?_⟩
    · have : y = x := by simpa [tj] using hy
      subst this; exact hx
    · simp only [tj, turnOf]; omega
    · have : y = x := by simpa [tj] using hy
      subst this; exact .inr ⟨rfl, Nat.le_refl _⟩
  | cons y r =>
    have hy := h.1 y (zS ..)
    have gy := tright_iff.1 hy
    have hly := hle y (zS ..)
    have hp := List.pairwise_cons.1 h.2
    rw [tj_cons]
    by_cases hc : y.c = x.c ∧ y.t = x.f ∧ y.n = x.n
    · rw [if_pos hc]
      have hm : Trn.right { y with t := x.t } = true := tright_iff.2 ⟨gy.1, gy.2.1, gy.2.2.1, by simp only; omega, by simp only; omega, gy.2.2.2.2.2⟩
      refine ⟨⟨fun z hz => ?_, List.pairwise_cons.2 ⟨fun z hz => hp.1 z hz, hp.2⟩⟩, fun c k => ?_, fun z hz => ?_⟩
      · rcases List.mem_cons.1 hz with rfl | hz
        · exact hm
        · exact h.1 z (zO _ hz)
      · have e : Trn.at { y with t := x.t } c k = max (y.at c k) (x.at c k) := by
          unfold Trn.at
          by_cases h1 : y.c = c ∧ y.f ≤ k ∧ k < y.t
          · rw [if_pos (show _ ∧ _ from ⟨hm, h1.1, h1.2.1, by simp only; omega⟩), if_pos ⟨hy, h1⟩, if_neg (fun hh => by omega)]; simp only; omega
          · by_cases h2 : x.c = c ∧ x.f ≤ k ∧ k < x.t
            · rw [if_pos (show _ ∧ _ from ⟨hm, by simp only; omega, by simp only; omega, h2.2.2⟩), if_neg (fun hh => h1 hh.2), if_pos ⟨hx, h2⟩]; simp only; omega
            · rw [if_neg (fun hh => by simp only at hh; omega), if_neg (fun hh => h1 hh.2), if_neg (fun hh => h2 hh.2)]; rfl
        simp only [turnOf, e]; omega
      · rcases List.mem_cons.1 hz with rfl | hz
        · exact .inr ⟨hc.1, Nat.le_refl _⟩
        · rcases hle z (zO _ hz) with h1 | ⟨h1, h2⟩
          · exact .inl h1
          · exact .inr ⟨h1, by omega⟩
    · rw [if_neg hc]
      have hb : ∀ z ∈ y :: r, z.bef x := fun z hz => by
        rcases List.mem_cons.1 hz with rfl | hz
        · rcases hly with h1 | ⟨h1, h2⟩
          · exact .inl h1
          · rcases Nat.lt_or_eq_of_le h2 with h3 | h3
            · exact .inr ⟨h1, .inl h3⟩
            · exact .inr ⟨h1, .inr ⟨h3, fun h4 => hc ⟨h1, h3, h4⟩⟩⟩
        · rcases hp.1 z hz with h1 | ⟨h1, h2⟩
          · rcases hly with h3 | ⟨h3, h4⟩
            · exact .inl (by omega)
            · exact .inl (by omega)
          · rcases hly with h3 | ⟨h3, h4⟩
            · exact .inl (by omega)
            · exact .inr ⟨by omega, .inl (by rcases h2 with h2 | ⟨h2, _⟩ <;> omega)⟩
      refine ⟨⟨fun z hz => ?_, List.pairwise_cons.2 ⟨hb, h.2⟩⟩, fun c k => ?_, fun z hz => ?_⟩
      · rcases List.mem_cons.1 hz with rfl | hz
        · exact hx
        · exact h.1 z hz
      · simp only [turnOf]; omega
      · rcases List.mem_cons.1 hz with rfl | hz
        · exact .inr ⟨rfl, Nat.le_refl _⟩
        · rcases hle z hz with h1 | ⟨h1, h2⟩
          · exact .inl h1
          · exact .inr ⟨h1, by omega⟩
def tEnd (u : Nat) (l : List Trn) : Nat := l.foldl (fun m x => min m x.t) u
def tTop (l : List Trn) : Nat := l.foldl (fun m x => max m x.n) 0
theorem tEnd_spec : ∀ (l : List Trn) (u : Nat), tEnd u l ≤ u ∧ (∀ x ∈ l, tEnd u l ≤ x.t) ∧ (tEnd u l = u ∨ ∃ x ∈ l, tEnd u l = x.t)
  | [], u => ⟨Nat.le_refl _, (fun _ h => by cases h), .inl rfl⟩
  | x :: l, u => by
    obtain ⟨h1, h2, h3⟩ := tEnd_spec l (min u x.t)
    have e : tEnd u (x :: l) = tEnd (min u x.t) l := rfl
    rw [e]
    refine ⟨by omega, fun y hy => ?_, ?_⟩
    · rcases List.mem_cons.1 hy with rfl | hy
      · omega
      · exact h2 y hy
    · rcases h3 with h3 | ⟨y, hy, h3⟩
      · by_cases hh : u ≤ x.t
        · exact .inl (by omega)
        · exact .inr ⟨x, zS .., by omega⟩
      · exact .inr ⟨y, zO _ hy, h3⟩
theorem tTop_from : ∀ (l : List Trn) (m : Nat), l.foldl (fun m x => max m x.n) m = max m (tTop l)
  | [], m => by simp [tTop]
  | x :: l, m => by
    unfold tTop
    rw [List.foldl_cons, List.foldl_cons, tTop_from l, tTop_from l]; omega
theorem tTop_cons (x : Trn) (l : List Trn) : tTop (x :: l) = max x.n (tTop l) := by
  unfold tTop
  rw [List.foldl_cons, tTop_from]; unfold tTop; omega
theorem tTop_at : ∀ {l : List Trn} {c k : Nat}, (∀ x ∈ l, x.right = true ∧ x.c = c ∧ x.f ≤ k ∧ k < x.t) → turnOf l c k = tTop l
  | [], _, _, _ => rfl
  | x :: l, c, k, h => by
    obtain ⟨h1, h2, h3, h4⟩ := h x (zS ..)
    have := tTop_at (l := l) (c := c) (k := k) (fun y hy => h y (zO _ hy))
    rw [tTop_cons]
    simp only [turnOf, at_of h1 h2 h3 h4, this]
theorem tTop_num {l : List Trn} (h : ∀ x ∈ l, x.right = true) (hne : l ≠ []) : 1 ≤ tTop l ∧ tTop l ≤ 9007199254740991 := by
  induction l with
  | nil => exact absurd rfl hne
  | cons x l ih =>
    have hx := tright_iff.1 (h x (zS ..))
    rw [tTop_cons]
    by_cases hl : l = []
    · subst hl
      have : tTop ([] : List Trn) = 0 := rfl
      omega
    · have := ih (fun y hy => h y (zO _ hy)) hl
      omega
structure Swept (P : List Trn) (c0 at_ : Nat) (op out : List Trn) : Prop where
  told : ∀ c k, turnOf P c k = max (turnOf out c k) (if at_ ≤ k then turnOf op c k else 0)
  canon : TCanonR out
  opens : ∀ x ∈ op, x.right = true ∧ x.c = c0 ∧ x.f ≤ at_ ∧ at_ < x.t
  behind : ∀ y ∈ out, y.c < c0 ∨ (y.c = c0 ∧ y.t ≤ at_)
theorem turnOf_opens {op : List Trn} {c k to_ : Nat} (h : to_ ≤ k) : turnOf op c k = turnOf (op.filter fun x => decide (¬ x.t ≤ to_)) c k := by
  induction op with
  | nil => rfl
  | cons x l ih =>
    rw [List.filter_cons]
    split
    · simp only [turnOf, ih]
    · rename_i hh
      have hh : x.t ≤ to_ := by simpa using hh
      have : x.at c k = 0 := if_neg (fun h2 => by omega)
      simp only [turnOf, ih, this]; omega
theorem Swept.piece {P op out : List Trn} {c0 at_ u : Nat} (h : Swept P c0 at_ op out) (hne : op ≠ []) (hu : at_ < u) (hu2 : u ≤ 9007199254740992) :
    at_ < tEnd u op ∧ tEnd u op ≤ u ∧ Swept P c0 (tEnd u op) (op.filter fun x => decide (¬ x.t ≤ tEnd u op)) (tj out ⟨c0, at_, tEnd u op, tTop op⟩) := by
  obtain ⟨g1, g2, g3⟩ := tEnd_spec op u
  have hat : at_ < tEnd u op := by
    rcases g3 with g3 | ⟨x, hx, g3⟩
    · omega
    · have := (h.opens x hx).2.2.2; omega
  obtain ⟨x0, hx0⟩ := List.exists_mem_of_ne_nil op hne
  have h0 := h.opens x0 hx0
  have r0 := tright_iff.1 h0.1
  have hn := tTop_num (fun x hx => (h.opens x hx).1) hne
  have hp : Trn.right ⟨c0, at_, tEnd u op, tTop op⟩ = true := tright_iff.2 ⟨by simp only; omega, by simp only; omega, by simp only; omega, hat, by simp only; omega, hn.1, hn.2⟩
  obtain ⟨t1, t2, t3⟩ := tj_spec h.canon hp h.behind
  refine ⟨hat, g1, ⟨fun c k => ?_, t1, fun x hx => ?_, t3⟩⟩
  · rw [h.told c k, t2]
    by_cases hk : at_ ≤ k
    · rw [if_pos hk]
      by_cases hk2 : tEnd u op ≤ k
      · rw [if_pos hk2, ← turnOf_opens hk2]
        have : Trn.at ⟨c0, at_, tEnd u op, tTop op⟩ c k = 0 := if_neg (fun hh => by have := hh.2.2.2; simp only at this; omega)
        rw [this]; omega
      · rw [if_neg hk2]
        by_cases hc : c0 = c
        · have e1 := at_of (x := ⟨c0, at_, tEnd u op, tTop op⟩) hp hc hk (by simp only; omega)
          have e2 : turnOf op c k = tTop op := tTop_at (fun x hx => by
            obtain ⟨q1, q2, q3, q4⟩ := h.opens x hx
            have := g2 x hx
            exact ⟨q1, by omega, by omega, by omega⟩)
          rw [e1, e2]; simp only; omega
        · have e1 : Trn.at ⟨c0, at_, tEnd u op, tTop op⟩ c k = 0 := if_neg (fun hh => hc hh.2.1)
          have e2 : turnOf op c k = 0 := turnOf_zero (fun x hx => if_neg (fun hh => by have := (h.opens x hx).2.1; omega))
          rw [e1, e2]; omega
    · rw [if_neg hk, if_neg (by omega)]
      have : Trn.at ⟨c0, at_, tEnd u op, tTop op⟩ c k = 0 := if_neg (fun hh => by have := hh.2.2.1; simp only at this; omega)
      rw [this]; omega
  · obtain ⟨hx1, hx2⟩ := List.mem_filter.1 hx
    obtain ⟨q1, q2, q3, q4⟩ := h.opens x hx1
    have hx2 : ¬ x.t ≤ tEnd u op := of_decide_eq_true hx2
    exact ⟨q1, q2, by omega, by omega⟩
theorem Swept.more {P op out : List Trn} {c0 at_ : Nat} {x : Trn} (h : Swept P c0 at_ op out) (hx : x.right = true) (hc : op = [] ∨ c0 = x.c ∧ at_ = x.f) (hb : c0 < x.c ∨ c0 = x.c ∧ at_ ≤ x.f) : Swept (P ++ [x]) x.c x.f (op ++ [x]) out := by
  have gx := tright_iff.1 hx
  refine ⟨fun c k => ?_, h.canon, fun y hy => ?_, fun y hy => ?_⟩
  · rw [turnOf_append, h.told c k, turnOf_append]
    have e : turnOf [x] c k = x.at c k := by simp [turnOf]
    rw [e]
    rcases hc with rfl | ⟨rfl, rfl⟩
    · have e0 : turnOf [] c k = 0 := rfl
      rw [e0, ite_self]
      by_cases hk : x.f ≤ k
      · rw [if_pos hk]; omega
      · rw [if_neg hk]
        have : x.at c k = 0 := if_neg (fun hh => hk hh.2.2.1)
        rw [this]; omega
    · by_cases hk : x.f ≤ k
      · rw [if_pos hk, if_pos hk]; omega
      · rw [if_neg hk, if_neg hk]
        have : x.at x.c k = 0 := if_neg (fun hh => hk hh.2.2.1)
        have e2 : x.at c k = 0 := if_neg (fun hh => hk hh.2.2.1)
        rw [e2]; omega
  · rcases List.mem_append.1 hy with hy | hy
    · rcases hc with rfl | ⟨h1, h2⟩
      · cases hy
      · obtain ⟨q1, q2, q3, q4⟩ := h.opens y hy
        exact ⟨q1, by omega, by omega, by omega⟩
    · have : y = x := by simpa using hy
      subst this
      exact ⟨hx, rfl, Nat.le_refl _, by omega⟩
  · rcases h.behind y hy with h1 | ⟨h1, h2⟩
    · rcases hb with h3 | ⟨h3, _⟩ <;> exact .inl (by omega)
    · rcases hb with h3 | ⟨h3, h4⟩
      · exact .inl (by omega)
      · exact .inr ⟨by omega, by omega⟩
theorem Swept.done {P out : List Trn} {c0 at_ : Nat} (h : Swept P c0 at_ [] out) : TCanon out.reverse ∧ ∀ c k, turnOf out.reverse c k = turnOf P c k := by
  refine ⟨h.canon.reverse, fun c k => ?_⟩
  rw [turnOf_reverse, h.told c k]
  have e0 : turnOf [] c k = 0 := rfl
  rw [e0, ite_self]; omega
theorem Swept.start (c0 at_ : Nat) : Swept [] c0 at_ [] [] := ⟨fun c k => by simp [turnOf], ⟨(fun _ h => by cases h), List.Pairwise.nil⟩, (fun _ h => by cases h), (fun _ h => by cases h)⟩
end Go.Ids
end
section
namespace Go.Ids
open Go.Ev
open Classical in
noncomputable def tnorm (l : List Trn) : List Trn := if h : ∃ L, TCanon L ∧ ∀ c k, turnOf L c k = turnOf l c k then h.choose else []
theorem tnorm_canon (l : List Trn) : TCanon (tnorm l) := by
  unfold tnorm
  split
  · rename_i h; exact h.choose_spec.1
  · exact TCanon.nil
theorem tnorm_eq {l L : List Trn} (h1 : TCanon L) (h2 : ∀ c k, turnOf L c k = turnOf l c k) : tnorm l = L := by
  have h : ∃ L, TCanon L ∧ ∀ c k, turnOf L c k = turnOf l c k := ⟨L, h1, h2⟩
  unfold tnorm
  rw [dif_pos h]
  exact tcanon_unique h.choose_spec.1 h1 fun c k => (h.choose_spec.2 c k).trans (h2 c k).symm
theorem tnorm_id {l : List Trn} (h : TCanon l) : tnorm l = l := tnorm_eq h fun _ _ => rfl
theorem tnorm_nil : tnorm [] = [] := tnorm_id TCanon.nil
structure Msg where
  kind : Int
  c : Nat
  n : Nat
  room : List UInt8
  vec : List Clk
  turns : List Trn
  b : List UInt8
def Msg.zero : Msg := ⟨0, 0, 0, [], [], [], []⟩
noncomputable def Msg.clean (m : Msg) : Msg := { m with vec := vclean m.vec, turns := tnorm m.turns }
structure Msg.Fit (m : Msg) : Prop where
  room : m.room.length < 100000000
  vec : m.vec.length < 1000000
  turns : m.turns.length < 1000000
  b : m.b.length < 100000000
def Msg.same (a b : Msg) : Bool := decide (a.kind = b.kind) && (decide (a.c = b.c) && (decide (a.n = b.n) && (decide (a.room = b.room) && (decide (a.vec = b.vec) && (decide (a.turns = b.turns) && decide (a.b = b.b))))))
theorem Msg.same_iff {a b : Msg} : a.same b = true ↔ a = b := by
  obtain ⟨a1, a2, a3, a4, a5, a6, a7⟩ := a
  obtain ⟨b1, b2, b3, b4, b5, b6, b7⟩ := b
  simp [Msg.same]
def Msg.bare (m : Msg) : Msg :=
  if m.kind = 1 then ⟨1, m.c, 0, m.room, m.vec, m.turns, []⟩ else if m.kind = 2 then ⟨2, 0, 0, [], m.vec, m.turns, []⟩ else if m.kind = 3 then ⟨3, 0, m.n, [], [], [], m.b⟩
  else if m.kind = 4 then ⟨4, 0, m.n, [], [], [], []⟩ else if m.kind = 5 then ⟨5, 0, 0, [], [], [], m.b⟩ else if m.kind = 6 then ⟨6, 0, m.n, [], [], [], []⟩ else ⟨m.kind, 0, 0, [], [], [], []⟩
def nameIs (V : List UInt8 → Bool) (l : List UInt8) : Bool := decide (l ≠ []) && (decide (l.length ≤ 32) && V l)
noncomputable def Msg.sets (m : Msg) : Bool := decide ((vclean m.vec).length ≤ 16384) && decide ((tnorm m.turns).length ≤ 16384)
noncomputable def Msg.right (V : List UInt8 → Bool) (m : Msg) : Bool :=
  if m.kind = 1 then m.sets && num m.c && nameIs V m.room else if m.kind = 2 then m.sets
  else if m.kind = 3 then decide (m.n ≤ 9007199254740991) && decide (m.b.length ≤ 1048576) else if m.kind = 4 then num m.n else if m.kind = 5 then decide (m.b.length ≤ 1048576) else if m.kind = 6 then num m.n else false
def encT (x : Trn) : List UInt8 := encU x.c ++ (encU x.f ++ (encU x.t ++ encU x.n))
def encTs (L : List Trn) : List UInt8 := encU L.length ++ L.flatMap encT
def encS (s : List UInt8) : List UInt8 := encU s.length ++ s
def Msg.Ok (V : List UInt8 → Bool) (m : Msg) : Prop :=
  ((m.kind = 1 ∨ m.kind = 2) ∧ m.n = 0 ∧ m.b = [] ∧ (vclean m.vec).length ≤ 16384 ∧ (tnorm m.turns).length ≤ 16384 ∧
    ((m.kind = 1 ∧ 1 ≤ m.c ∧ m.c ≤ 9007199254740991 ∧ m.room ≠ [] ∧ m.room.length ≤ 32 ∧ V m.room = true) ∨ (m.kind = 2 ∧ m.c = 0 ∧ m.room = []))) ∨
  ((m.kind = 3 ∨ m.kind = 5) ∧ m.c = 0 ∧ m.room = [] ∧ m.vec = [] ∧ m.turns = [] ∧ m.b.length ≤ 1048576 ∧ m.n ≤ 9007199254740991 ∧ (m.kind = 5 → m.n = 0)) ∨
  ((m.kind = 4 ∨ m.kind = 6) ∧ m.c = 0 ∧ m.room = [] ∧ m.vec = [] ∧ m.turns = [] ∧ m.b = [] ∧ 1 ≤ m.n ∧ m.n ≤ 9007199254740991)
open Classical in
noncomputable def Msg.ok (V : List UInt8 → Bool) (m : Msg) : Bool := decide (m.Ok V)
theorem ok_iff {V : List UInt8 → Bool} {m : Msg} : m.ok V = true ↔ m.Ok V := by unfold Msg.ok; simp
theorem Msg.right_ok (V : List UInt8 → Bool) (m : Msg) : (m.right V && m.bare.same m) = m.ok V := by
  have key : (m.right V && m.bare.same m) = true ↔ m.Ok V := by
    rw [Bool.and_eq_true, Msg.same_iff]
    obtain ⟨K, c, n, room, vec, turns, b⟩ := m
    unfold Msg.right Msg.bare Msg.Ok Msg.sets nameIs num
    simp only
    by_cases h1 : K = 1
    · subst h1; simp [and_assoc]
      constructor
      · rintro ⟨g1, g2, g3, g4, g5, g6, g7, rfl, rfl⟩; exact ⟨rfl, rfl, g1, g2, g3, g4, g5, g6, g7⟩
      · rintro ⟨rfl, rfl, g1, g2, g3, g4, g5, g6, g7⟩; exact ⟨g1, g2, g3, g4, g5, g6, g7, rfl, rfl⟩
    by_cases h2 : K = 2
    · subst h2; simp [and_assoc]
      constructor
      · rintro ⟨g1, g2, rfl, rfl, rfl, rfl⟩; exact ⟨rfl, rfl, g1, g2, rfl, rfl⟩
      · rintro ⟨rfl, rfl, g1, g2, rfl, rfl⟩; exact ⟨g1, g2, rfl, rfl, rfl, rfl⟩
    by_cases h3 : K = 3
    · subst h3; simp [and_assoc]
      constructor
      · rintro ⟨g1, g2, rfl, rfl, rfl, rfl⟩; exact ⟨rfl, rfl, rfl, rfl, g2, g1⟩
      · rintro ⟨rfl, rfl, rfl, rfl, g2, g1⟩; exact ⟨g1, g2, rfl, rfl, rfl, rfl⟩
    by_cases h4 : K = 4
    · subst h4; simp [and_assoc]
      constructor
      · rintro ⟨g1, g2, rfl, rfl, rfl, rfl, rfl⟩; exact ⟨rfl, rfl, rfl, rfl, rfl, g1, g2⟩
      · rintro ⟨rfl, rfl, rfl, rfl, rfl, g1, g2⟩; exact ⟨g1, g2, rfl, rfl, rfl, rfl, rfl⟩
    by_cases h5 : K = 5
    · subst h5; simp []
      constructor
      · rintro ⟨g1, rfl, rfl, rfl, rfl, rfl⟩; exact ⟨rfl, rfl, rfl, rfl, g1, by omega, rfl⟩
      · rintro ⟨rfl, rfl, rfl, rfl, g1, _, rfl⟩; exact ⟨g1, rfl, rfl, rfl, rfl, rfl⟩
    by_cases h6 : K = 6
    · subst h6; simp [and_assoc]
      constructor
      · rintro ⟨g1, g2, rfl, rfl, rfl, rfl, rfl⟩; exact ⟨rfl, rfl, rfl, rfl, rfl, g1, g2⟩
      · rintro ⟨rfl, rfl, rfl, rfl, rfl, g1, g2⟩; exact ⟨g1, g2, rfl, rfl, rfl, rfl, rfl⟩
    simp [h1, h2, h3, h4, h5, h6]
  exact Bool.eq_iff_iff.2 (key.trans ok_iff.symm)
noncomputable def Msg.enc (m : Msg) : List UInt8 :=
  if m.kind = 1 then UInt8.ofNat 1 :: (encU m.c ++ (encS m.room ++ (encV (vclean m.vec) ++ encTs (tnorm m.turns))))
  else if m.kind = 2 then UInt8.ofNat 2 :: (encV (vclean m.vec) ++ encTs (tnorm m.turns))
  else if m.kind = 3 then UInt8.ofNat 3 :: (encU m.n ++ encS m.b)
  else if m.kind = 4 then UInt8.ofNat 4 :: encU m.n
  else if m.kind = 5 then UInt8.ofNat 5 :: encS m.b
  else UInt8.ofNat 6 :: encU m.n
theorem vclean_nil : vclean [] = [] := (vclean_eq VCanon.nil fun _ => rfl).symm
theorem Msg.Ok.clean {V : List UInt8 → Bool} {m : Msg} (h : m.Ok V) : m.clean.Ok V := by
  unfold Msg.Ok at *
  simp only [Msg.clean]
  rcases h with ⟨h1, h2, h3, h4, h5, h6⟩ | ⟨h1, h2, h3, h4, h5, h6⟩ | ⟨h1, h2, h3, h4, h5, h6⟩
  · exact .inl ⟨h1, h2, h3, by rw [vclean_clean]; exact h4, by rw [tnorm_id (tnorm_canon _)]; exact h5, h6⟩
  · exact .inr (.inl ⟨h1, h2, h3, by rw [h4, vclean_nil], by rw [h5, tnorm_nil], h6⟩)
  · exact .inr (.inr ⟨h1, h2, h3, by rw [h4, vclean_nil], by rw [h5, tnorm_nil], h6⟩)
theorem Msg.enc_clean (m : Msg) : m.clean.enc = m.enc := by
  unfold Msg.enc
  simp only [Msg.clean, vclean_clean, tnorm_id (tnorm_canon _)]
  rfl
theorem Msg.clean_clean (m : Msg) : m.clean.clean = m.clean := by
  unfold Msg.clean
  simp only [vclean_clean, tnorm_id (tnorm_canon _)]
abbrev St := List UInt8 × Int
def rdB (s : St) : UInt8 × St := gR 0 s.2 s.1 (rdByte s.1)
def rdT (most : Nat) (s : St) : List UInt8 × St := gR [] s.2 s.1 (rdText most s.1)
theorem rdB_back (x : UInt8) (l : List UInt8) : rdB (x :: l, 0) = (x, l, 0) := gR_ok rfl
theorem rdT_back {most : Nat} (s l : List UInt8) (h : s.length ≤ most) (h64 : s.length < 18446744073709551616) : rdT most (encS s ++ l, 0) = (s, l, 0) := by
  refine gR_ok ?_
  show rdText most (encS s ++ l) = _
  unfold rdText encS
  rw [List.append_assoc, rdU_back _ h h64]
  simp
def rdTrn (a b c d : Nat) (s : St) : Trn × St :=
  let r1 := rdN a s
  let r2 := rdN b r1.2
  let r3 := rdN c r2.2
  let r4 := rdN d r3.2
  (⟨r1.1, r2.1, r3.1, r4.1⟩, r4.2)
def trdP : Nat → List Trn → St → Option (List Trn × St)
  | 0, out, s => some (out, s)
  | n + 1, out, s =>
    let r := rdTrn 9007199254740991 9007199254740991 9007199254740992 9007199254740991 s
    if r.2.2 = 0 then trdP n (out ++ [r.1]) r.2 else none
def trdQ : Nat → List Trn → St → List Trn × St
  | 0, out, s => (out, s)
  | n + 1, out, s => if s.2 = 0 then
      let r := rdTrn 18446744073709551615 18446744073709551615 18446744073709551615 18446744073709551615 s
      trdQ n (out ++ [r.1]) r.2
    else (out, s)
theorem encT_back {a b c d : Nat} (x : Trn) (l : List UInt8) (h1 : x.c ≤ a) (h2 : x.f ≤ b) (h3 : x.t ≤ c) (h4 : x.n ≤ d) (g1 : x.c < 18446744073709551616) (g2 : x.f < 18446744073709551616) (g3 : x.t < 18446744073709551616) (g4 : x.n < 18446744073709551616) :
    rdTrn a b c d (encT x ++ l, 0) = (x, l, 0) := by
  unfold rdTrn encT
  simp only [List.append_assoc]
  rw [rdN_back _ h1 g1]
  simp only
  rw [rdN_back _ h2 g2]
  simp only
  rw [rdN_back _ h3 g3]
  simp only
  rw [rdN_back _ h4 g4]
theorem trdP_back : ∀ (L out : List Trn) (more : List UInt8), (∀ x ∈ L, x.right = true) → trdP L.length out (L.flatMap encT ++ more, 0) = some (out ++ L, more, 0)
  | [], out, more, _ => by simp [trdP]
  | x :: L, out, more, h => by
    obtain ⟨g1, g2, g3, g4, g5, g6, g7⟩ := tright_iff.1 (h x (zS ..))
    simp only [List.length_cons, trdP, List.flatMap_cons, List.append_assoc]
    rw [encT_back x _ g2 (by omega) g5 g7 (by omega) (by omega) (by omega) (by omega), if_pos rfl, trdP_back L _ more (fun y hy => h y (zO _ hy))]
    simp
theorem trdQ_back : ∀ (L out : List Trn) (more : List UInt8), (∀ x ∈ L, x.right = true) → trdQ L.length out (L.flatMap encT ++ more, 0) = (out ++ L, more, 0)
  | [], out, more, _ => by simp [trdQ]
  | x :: L, out, more, h => by
    obtain ⟨g1, g2, g3, g4, g5, g6, g7⟩ := tright_iff.1 (h x (zS ..))
    simp only [List.length_cons, trdQ, List.flatMap_cons, List.append_assoc]
    rw [if_pos trivial, encT_back x _ (by omega) (by omega) (by omega) (by omega) (by omega) (by omega) (by omega) (by omega), trdQ_back L _ more (fun y hy => h y (zO _ hy))]
    simp
def rdP (s : St) : Option (Msg × St) :=
  let k := rdB s
  let K : Int := k.1.toNat
  if K = 1 ∨ K = 2 then
    let c := if K = 1 then rdN 9007199254740991 k.2 else (0, k.2)
    let r := if K = 1 then rdT 32 c.2 else ([], c.2)
    let v := vrd r.2
    let n := rdN 16384 v.2
    match trdP n.1 [] n.2 with
    | none => none
    | some t => some (⟨K, c.1, 0, r.1, v.1, t.1, []⟩, t.2)
  else if K = 3 then
    let n := rdN 9007199254740991 k.2
    let b := rdT 1048576 n.2
    some (⟨K, 0, n.1, [], [], [], b.1⟩, b.2)
  else if K = 4 ∨ K = 6 then
    let n := rdN 9007199254740991 k.2
    some (⟨K, 0, n.1, [], [], [], []⟩, n.2)
  else if K = 5 then
    let b := rdT 1048576 k.2
    some (⟨K, 0, 0, [], [], [], b.1⟩, b.2)
  else some (⟨K, 0, 0, [], [], [], []⟩, k.2)
def rdQ (s : St) : Option (Msg × St) :=
  let k := rdB s
  let K : Int := k.1.toNat
  if K = 1 ∨ K = 2 then
    let c := if K = 1 then rdN 9007199254740991 k.2 else (0, k.2)
    let r := if K = 1 then rdT 32 c.2 else ([], c.2)
    let v := vrd r.2
    let n := rdN 16384 v.2
    let t := trdQ n.1 [] n.2
    some (⟨K, c.1, 0, r.1, v.1, t.1, []⟩, t.2)
  else if K = 3 then
    let n := rdN 9007199254740991 k.2
    let b := rdT 1048576 n.2
    some (⟨K, 0, n.1, [], [], [], b.1⟩, b.2)
  else if K = 5 then
    let b := rdT 1048576 k.2
    some (⟨K, 0, 0, [], [], [], b.1⟩, b.2)
  else if K = 4 ∨ K = 6 then
    let n := rdN 9007199254740991 k.2
    some (⟨K, 0, n.1, [], [], [], []⟩, n.2)
  else none
noncomputable def told (V : List UInt8 → Bool) (b : List UInt8) : Option (Msg × St) → Option Msg
  | none => none
  | some (m, l, e) => if e = 0 ∧ l = [] ∧ m.ok V = true ∧ m.enc = b then some m else none
theorem rd_back {V : List UInt8 → Bool} {m : Msg} (h : m.Ok V) (more : List UInt8) : rdP (m.enc ++ more, 0) = some (m.clean, more, 0) ∧ rdQ (m.enc ++ more, 0) = some (m.clean, more, 0) := by
  have hv := vclean_canon m.vec
  have ht := (tnorm_canon m.turns).1
  obtain ⟨K, c, n, room, vec, turns, b⟩ := m
  unfold Msg.Ok at h
  simp only at h hv ht
  have tail : ∀ l : List UInt8, (vclean vec).length ≤ 16384 → (tnorm turns).length ≤ 16384 → ∃ s, vrd (encV (vclean vec) ++ (encTs (tnorm turns) ++ l), 0) = (vclean vec, s) ∧ rdN 16384 s = ((tnorm turns).length, (tnorm turns).flatMap encT ++ l, 0) := fun l h1 h2 =>
    ⟨(encTs (tnorm turns) ++ l, 0), vrd_back _ _ hv h1, by unfold encTs; rw [List.append_assoc]; exact rdN_back _ h2 (by omega)⟩
  rcases h with ⟨hk, rfl, rfl, h4, h5, h6⟩ | ⟨hk, rfl, rfl, rfl, rfl, h6, h7, h8⟩ | ⟨hk, rfl, rfl, rfl, rfl, rfl, h6, h7⟩
  · obtain ⟨s, hs1, hs2⟩ := tail more h4 h5
    rcases h6 with ⟨rfl, g1, g2, g3, g4, g5⟩ | ⟨rfl, rfl, rfl⟩
    · have e0 : (Msg.enc ⟨1, c, 0, room, vec, turns, []⟩ ++ more, (0 : Int)) = (UInt8.ofNat 1 :: (encU c ++ (encS room ++ (encV (vclean vec) ++ (encTs (tnorm turns) ++ more)))), 0) := by
        unfold Msg.enc; simp
      have e1 : rdN 9007199254740991 (encU c ++ (encS room ++ (encV (vclean vec) ++ (encTs (tnorm turns) ++ more))), 0) = (c, encS room ++ (encV (vclean vec) ++ (encTs (tnorm turns) ++ more)), 0) := rdN_back _ g2 (by omega)
      have e2 : rdT 32 (encS room ++ (encV (vclean vec) ++ (encTs (tnorm turns) ++ more)), 0) = (room, encV (vclean vec) ++ (encTs (tnorm turns) ++ more), 0) := rdT_back _ _ g4 (by omega)
      have ek : ((UInt8.ofNat 1).toNat : Int) = 1 := rfl
      constructor
      · rw [e0]
        unfold rdP
        rw [rdB_back]
        simp only [ek, true_or, if_true]
        rw [e1]
        simp only
        rw [e2]
        simp only
        rw [hs1]
        simp only
        rw [hs2]
        simp only
        rw [trdP_back _ _ _ ht]
        rfl
      · rw [e0]
        unfold rdQ
        rw [rdB_back]
        simp only [ek, true_or, if_true]
        rw [e1]
        simp only
        rw [e2]
        simp only
        rw [hs1]
        simp only
        rw [hs2]
        simp only
        rw [trdQ_back _ _ _ ht]
        rfl
    · have e0 : (Msg.enc ⟨2, 0, 0, [], vec, turns, []⟩ ++ more, (0 : Int)) = (UInt8.ofNat 2 :: (encV (vclean vec) ++ (encTs (tnorm turns) ++ more)), 0) := by
        unfold Msg.enc; simp
      have ek : ((UInt8.ofNat 2).toNat : Int) = 2 := rfl
      have n1 : ¬ ((2 : Int) = 1) := by omega
      constructor
      · rw [e0]
        unfold rdP
        rw [rdB_back]
        simp only [ek, or_true, if_true, n1, if_false]
        rw [hs1]
        simp only
        rw [hs2]
        simp only
        rw [trdP_back _ _ _ ht]
        rfl
      · rw [e0]
        unfold rdQ
        rw [rdB_back]
        simp only [ek, or_true, if_true, n1, if_false]
        rw [hs1]
        simp only
        rw [hs2]
        simp only
        rw [trdQ_back _ _ _ ht]
        rfl
  · have ec : ∀ K n, Msg.clean ⟨K, 0, n, [], [], [], b⟩ = ⟨K, 0, n, [], [], [], b⟩ := fun K n => by unfold Msg.clean; simp only [vclean_nil, tnorm_nil]
    rcases hk with rfl | rfl
    · have e0 : (Msg.enc ⟨3, 0, n, [], [], [], b⟩ ++ more, (0 : Int)) = (UInt8.ofNat 3 :: (encU n ++ (encS b ++ more)), 0) := by unfold Msg.enc; simp
      have ek : ((UInt8.ofNat 3).toNat : Int) = 3 := rfl
      have n1 : ¬ ((3 : Int) = 1 ∨ (3 : Int) = 2) := by omega
      rw [e0, ec]
      constructor
      · unfold rdP
        rw [rdB_back]
        simp only [ek, n1, if_true, if_false]
        rw [rdN_back _ h7 (by omega)]
        simp only
        rw [rdT_back _ _ h6 (by omega)]
      · unfold rdQ
        rw [rdB_back]
        simp only [ek, n1, if_true, if_false]
        rw [rdN_back _ h7 (by omega)]
        simp only
        rw [rdT_back _ _ h6 (by omega)]
    · obtain rfl := h8 rfl
      have e0 : (Msg.enc ⟨5, 0, 0, [], [], [], b⟩ ++ more, (0 : Int)) = (UInt8.ofNat 5 :: (encS b ++ more), 0) := by unfold Msg.enc; simp
      have ek : ((UInt8.ofNat 5).toNat : Int) = 5 := rfl
      have n1 : ¬ ((5 : Int) = 1 ∨ (5 : Int) = 2) := by omega
      have n2 : ¬ ((5 : Int) = 3) := by omega
      have n3 : ¬ ((5 : Int) = 4 ∨ (5 : Int) = 6) := by omega
      rw [e0, ec]
      constructor
      · unfold rdP
        rw [rdB_back]
        simp only [ek, n1, n2, n3, if_true, if_false]
        rw [rdT_back _ _ h6 (by omega)]
      · unfold rdQ
        rw [rdB_back]
        simp only [ek, n1, n2, if_true, if_false]
        rw [rdT_back _ _ h6 (by omega)]
  · have ec : ∀ K n, Msg.clean ⟨K, 0, n, [], [], [], []⟩ = ⟨K, 0, n, [], [], [], []⟩ := fun K n => by unfold Msg.clean; simp only [vclean_nil, tnorm_nil]
    rcases hk with rfl | rfl
    · have e0 : (Msg.enc ⟨4, 0, n, [], [], [], []⟩ ++ more, (0 : Int)) = (UInt8.ofNat 4 :: (encU n ++ more), 0) := by unfold Msg.enc; simp
      have ek : ((UInt8.ofNat 4).toNat : Int) = 4 := rfl
      have n1 : ¬ ((4 : Int) = 1 ∨ (4 : Int) = 2) := by omega
      have n2 : ¬ ((4 : Int) = 3) := by omega
      have n3 : ¬ ((4 : Int) = 5) := by omega
      rw [e0, ec]
      constructor
      · unfold rdP
        rw [rdB_back]
        simp only [ek, n1, n2, true_or, if_true, if_false]
        rw [rdN_back _ h7 (by omega)]
      · unfold rdQ
        rw [rdB_back]
        simp only [ek, n1, n2, n3, true_or, if_true, if_false]
        rw [rdN_back _ h7 (by omega)]
    · have e0 : (Msg.enc ⟨6, 0, n, [], [], [], []⟩ ++ more, (0 : Int)) = (UInt8.ofNat 6 :: (encU n ++ more), 0) := by unfold Msg.enc; simp
      have ek : ((UInt8.ofNat 6).toNat : Int) = 6 := rfl
      have n1 : ¬ ((6 : Int) = 1 ∨ (6 : Int) = 2) := by omega
      have n2 : ¬ ((6 : Int) = 3) := by omega
      have n3 : ¬ ((6 : Int) = 5) := by omega
      rw [e0, ec]
      constructor
      · unfold rdP
        rw [rdB_back]
        simp only [ek, n1, n2, or_true, if_true, if_false]
        rw [rdN_back _ h7 (by omega)]
      · unfold rdQ
        rw [rdB_back]
        simp only [ek, n1, n2, n3, or_true, if_true, if_false]
        rw [rdN_back _ h7 (by omega)]
noncomputable def readP (V : List UInt8 → Bool) (b : List UInt8) : Option Msg := (told V b (rdP (b, 0))).map Msg.clean
noncomputable def readQ (V : List UInt8 → Bool) (b : List UInt8) : Option Msg := told V b (rdQ (b, 0))
theorem told_some {V : List UInt8 → Bool} {b : List UInt8} {r : Option (Msg × St)} {m : Msg} : told V b r = some m ↔ r = some (m, [], 0) ∧ m.Ok V ∧ m.enc = b := by
  rcases r with _ | ⟨m', l, e⟩
  · simp [told]
  · unfold told
    by_cases h : e = 0 ∧ l = [] ∧ m'.ok V = true ∧ m'.enc = b
    · obtain ⟨rfl, rfl, h3, h4⟩ := h
      simp only [h3, h4, and_self, if_true, Option.some.injEq, Prod.mk.injEq, and_true]
      constructor
      · rintro rfl; exact ⟨rfl, ok_iff.1 h3, h4⟩
      · exact fun h => h.1
    · simp only [if_neg h]
      constructor
      · intro hh; cases hh
      · rintro ⟨hh, h5, h6⟩
        simp only [Option.some.injEq, Prod.mk.injEq] at hh
        obtain ⟨rfl, rfl, rfl⟩ := hh
        exact absurd ⟨rfl, rfl, ok_iff.2 h5, h6⟩ h
theorem readP_some {V : List UInt8 → Bool} {b : List UInt8} {x : Msg} : readP V b = some x ↔ ∃ m : Msg, m.Ok V ∧ m.enc = b ∧ x = m.clean := by
  unfold readP
  rw [Option.map_eq_some_iff]
  constructor
  · rintro ⟨m, h, rfl⟩
    obtain ⟨_, h2, h3⟩ := told_some.1 h
    exact ⟨m, h2, h3, rfl⟩
  · rintro ⟨m, h1, h2, rfl⟩
    refine ⟨m.clean, told_some.2 ⟨?_, h1.clean, (Msg.enc_clean m).trans h2⟩, Msg.clean_clean m⟩
    have := (rd_back h1 []).1
    rwa [List.append_nil, h2] at this
theorem readQ_some {V : List UInt8 → Bool} {b : List UInt8} {x : Msg} : readQ V b = some x ↔ ∃ m : Msg, m.Ok V ∧ m.enc = b ∧ x = m.clean := by
  unfold readQ
  constructor
  · intro h
    obtain ⟨h1, h2, h3⟩ := told_some.1 h
    refine ⟨x, h2, h3, ?_⟩
    have := (rd_back h2 []).2
    rw [List.append_nil, h3, h1] at this
    simpa using this
  · rintro ⟨m, h1, h2, rfl⟩
    refine told_some.2 ⟨?_, h1.clean, (Msg.enc_clean m).trans h2⟩
    have := (rd_back h1 []).2
    rwa [List.append_nil, h2] at this
theorem read_same (V : List UInt8 → Bool) (b : List UInt8) : readP V b = readQ V b := by
  cases h : readQ V b with
  | some x => exact readP_some.2 (readQ_some.1 h)
  | none =>
    cases h' : readP V b with
    | none => rfl
    | some x => rw [readQ_some.2 (readP_some.1 h')] at h; cases h
theorem enc_prefix {V : List UInt8 → Bool} {a b : Msg} (ha : a.Ok V) (hb : b.Ok V) {l : List UInt8} (h : a.enc ++ l = b.enc) : a.clean = b.clean ∧ l = [] := by
  have h1 := (rd_back ha l).1
  have h2 := (rd_back hb []).1
  rw [List.append_nil, ← h, h1] at h2
  simp only [Option.some.injEq, Prod.mk.injEq, and_true] at h2
  exact h2
theorem read_more {V : List UInt8 → Bool} {m : Msg} (h : m.Ok V) {l : List UInt8} (hl : l ≠ []) : readP V (m.enc ++ l) = none := by
  cases hr : readP V (m.enc ++ l) with
  | none => rfl
  | some x =>
    obtain ⟨a, h1, h2, _⟩ := readP_some.1 hr
    exact absurd (enc_prefix h h1 (by rw [h2])).2 hl
theorem read_back {V : List UInt8 → Bool} {m : Msg} (h : m.Ok V) : readP V m.enc = some m.clean := readP_some.2 ⟨m, h, rfl, rfl⟩
end Go.Ids
end
section
namespace Go.Ev
open Go.RowKit
structure Kc (B : Nat) (m m' : World) : Prop where
  os : m'.os = m.os
  tape : m'.tape = m.tape
  output : m'.output = m.output
  drawn : dle m.drawn m'.drawn
  size : m.heap.size ≤ m'.heap.size
  low : ∀ k, k < m.heap.size → k < B → m'.heap[k]? = m.heap[k]?
  cells : ∀ (k : Nat) (c : Array Value) (t : TypeId) (z : Nat × Nat), m.heap[k]? = some (Obj.cells c t z) → m'.heap[k]? = some (Obj.cells c t z)
def Kn (fx : Bool) (B : Nat) (m m' : World) : Prop := ∀ (k : Nat) (o : Obj), B ≤ k → m.heap[k]? = some o → (fx = true ∨ o.isCells = false) → m'.heap[k]? = some o
section
variable {m m' m'' : World} {B : Nat} {M : List Nat}
theorem Kc.refl (B : Nat) (m : World) : Kc B m m := ⟨rfl, rfl, rfl, dle.refl _, Nat.le_refl _, fun _ _ _ => rfl, fun _ _ _ _ h => h⟩
theorem Kc.trans (h : Kc B m m') (h' : Kc B m' m'') : Kc B m m'' :=
  ⟨h'.os.trans h.os, h'.tape.trans h.tape, h'.output.trans h.output, h.drawn.trans h'.drawn, Nat.le_trans h.size h'.size, fun k h1 h2 => (h'.low k (Nat.lt_of_lt_of_le h1 h.size) h2).trans (h.low k h1 h2), fun k c t z hk => h'.cells k c t z (h.cells k c t z hk)⟩
theorem Ext.kc (h : Ext m [] m') : Kc B m m' := ⟨h.os, h.tape, h.output, h.drawn, h.size, fun k h1 _ => h.far k h1 (by simp), fun k c t z hk => (h.far k (Array.getElem?_eq_some_iff.1 hk).1 (by simp)).trans hk⟩
theorem Blk.kc {b : Nat} {t : TypeId} {cs : List Value} (h : Blk m b t cs) (hK : Kc B m m') : Blk m' b t cs := hK.cells _ _ _ _ h
theorem Kc.cell (hK : Kc B m m') {a : Addr} {v : Value} (h : m.cell? a = some v) : m'.cell? a = some v := by
  unfold World.cell? at h ⊢
  split at h
  · rename_i c t z hc
    rw [hK.cells _ _ _ _ hc]; exact h
  · cases h
theorem Sl.kc {sz : Nat} {v : Value} {xs : List Value} (h : Sl m M sz v xs) (hK : Kc B m m') : Sl m' M sz v xs := by
  obtain ⟨A, n, c, hv, hnc, hc, hl, hA, hr⟩ := h
  refine ⟨A, n, c, hv, hnc, hc, hl, hA, fun hn => ?_⟩
  obtain ⟨ad, had, hb, hcell⟩ := hr hn
  exact ⟨ad, had, hb, fun j u hu => hK.cell (hcell j u hu)⟩
theorem Own.kc {S : List Nat} {t : TypeId} {sz : Nat} {v : Value} {n : Nat} {xs : List Value} (h : Own m S t sz v n xs) (hK : Kc B m m') : Own m' S t sz v n xs := by
  refine ⟨h.1, ?_⟩
  rcases h.2 with h1 | ⟨g, cap, cur, hv, hB, h1, h2, h3, h4, rfl⟩
  · exact .inl h1
  · exact .inr ⟨g, cap, cur, hv, hB.kc hK, h1, h2, h3, h4, rfl⟩
theorem Ext.of_kc {m0 : World} (h : Ext m0 M m) (hK : Kc B m m') (hB : m0.heap.size ≤ B) : Ext m0 M m' :=
  ⟨hK.os.trans h.os, hK.tape.trans h.tape, hK.output.trans h.output, Nat.le_trans h.size hK.size, fun k hk hn => (hK.low k (Nat.lt_of_lt_of_le hk h.size) (Nat.lt_of_lt_of_le hk hB)).trans (h.far k hk hn), h.drawn.trans hK.drawn⟩
theorem Kn.refl (fx : Bool) (B : Nat) (m : World) : Kn fx B m m := fun _ _ _ h _ => h
theorem Kn.trans {fx : Bool} (h : Kn fx B m m') (h' : Kn fx B m' m'') : Kn fx B m m'' := fun k o hB hk ho => h' k o hB (h k o hB hk ho) ho
theorem Ext.kn (h : Ext m M m') (hM : ∀ k ∈ M, B ≤ k → k < m.heap.size → ∃ (c : Array Value) (t : TypeId) (z : Nat × Nat), m.heap[k]? = some (Obj.cells c t z)) : Kn false B m m' := fun k o hB hk ho => by
  have hlt := (Array.getElem?_eq_some_iff.1 hk).1
  refine (h.far k hlt (fun hm => ?_)).trans hk
  obtain ⟨c, t, z, hc⟩ := hM k hm hB hlt
  rw [hk] at hc
  cases hc
  rcases ho with ho | ho <;> cases ho
theorem Ext.knLow {fx : Bool} (h : Ext m M m') (hM : ∀ k ∈ M, B ≤ k → m.heap.size ≤ k) : Kn fx B m m' := fun k o hB hk _ => by
  have hlt := (Array.getElem?_eq_some_iff.1 hk).1
  refine (h.far k hlt (fun hm => ?_)).trans hk
  have := hM k hm hB
  omega
theorem Ext.kn0 {fx : Bool} (h : Ext m [] m') : Kn fx B m m' := h.knLow (by simp)
theorem Own.cells {S : List Nat} {t : TypeId} {sz : Nat} {v : Value} {n : Nat} {xs : List Value} (h : Own m S t sz v n xs) : ∀ k ∈ S, ∃ (c : Array Value) (t : TypeId) (z : Nat × Nat), m.heap[k]? = some (Obj.cells c t z) := by
  rcases h.2 with ⟨_, _, _, rfl⟩ | ⟨g, _, cur, _, hB, _, _, _, _, rfl⟩
  · simp
  · intro k hk
    have : k = g := by simpa using hk
    subst this
    exact ⟨_, _, _, hB⟩
theorem putObj_kc {l : Nat} {o o' : Obj} (hl : m.heap[l]? = some o) (ho : o.isCells = false) (hB : B ≤ l) : Kc B m (m.putObj l o') := by
  refine ⟨rfl, rfl, rfl, dle.refl _, by simp, fun k _ hk => World.putObj_heap_other (by omega), fun k c t z hk => ?_⟩
  rw [World.putObj_heap_other]
  · exact hk
  · intro h; subst h; rw [hl] at hk; cases hk; cases ho
theorem Sim.putObj {w : World} (h : Sim m w) (l : Nat) (o : Obj) : Sim (m.putObj l o) (w.putObj l o) := ⟨by simp [World.putObj, h.heap], h.os, h.output, h.tape, h.drawn⟩
end
def RdE (P : Program) (l : Nat) (vs : List Value) (m : World) (post : Ending → World → Prop) : Prop :=
  ∀ w, Sim m w → ∃ f tmps assign body, (Instr.yield l vs.toArray).run P w = .ok (.round l f tmps assign body) w ∧ RoundIn Fence.wide 0 P l f tmps assign body w fun e w' => ∃ m', Sim m' w' ∧ post e m'
section
variable {P : Program} {ops : Array Oper} {Q : Exit → Act → World → Prop} {rest : List Oper} {n : Nat} {e e' : Env} {D : Fr} {m : World}
  {d : Option Tmp} {t ty : TypeId} {pos : String} {aft : Array Edge} {g : Option (Nat × Bool)} {v : Value}
theorem RL.yield {l : Nat} {fo : Operand} {xs : Array Operand} {ts : Array TypeId} {vs : List Value} {post : Ending → World → Prop}
    (hg : gd ops e ⟨d, .call ⟨.value fo, xs, ts⟩, ty, pos, aft, g⟩ = some true) (hfo : e.ev fo = some (.func (.yield l) #[] #[])) (hxs : e.evs xs.toList = some vs) (hc : RdE P l vs m post)
    (h : ∀ v m', post (.returned v) m' → ∃ e', putE n d v e = some e' ∧ RL P ops Q rest n e' D m') (hpan : ∀ ch m', ¬ post (.panicked ch) m') (hout : ∀ m', ¬ post .outgrown m') :
    RL P ops Q (⟨d, .call ⟨.value fo, xs, ts⟩, ty, pos, aft, g⟩ :: rest) n e D m := by
  refine RL.run hg (fun _ hh => by cases hh) fun a w hf hs => ?_
  obtain ⟨f, tmps, assign, body, hy, hr⟩ := hc w hs
  have h1 : xs.map a.eval = vs.toArray := Array.ext' (by rw [Array.toList_map]; exact hf.evs hxs)
  have hrun : (execOp a.eval (⟨d, .call ⟨.value fo, xs, ts⟩, ty, pos, aft, g⟩ : Oper)).run P w = .ok (.round l f tmps assign body) w := by
    simp [execOp, resolve, hf.ev hfo, Deferred.ofValue, invoke, h1, hy]
  rw [hrun]
  refine ⟨(fun hh => by cases hh), RoundIn.mono hr fun ed w' ⟨m', hs', hp⟩ => ?_⟩
  cases ed with
  | returned v =>
    obtain ⟨e', hp', hk⟩ := h v m' hp
    exact hk _ w' (hf.put hp') hs'
  | panicked ch => exact absurd hp (hpan ch m')
  | outgrown => exact absurd hp (hout m')
end
def SeqE {α : Type} (P : Program) (gf : FuncId) (lb : List Value) (encs : α → List Value) (fx : Bool) (K : World → Prop) (V : List α → α → Prop) (S Sp : List α → Prop) (m : World) : Prop :=
  ∀ (l : Nat) (J Jx : List α → World → Prop) (m1 : World), Ext m [] m1 → (∀ pre a b, J pre a → Ext a [] b → J pre b) → (∀ pre a b, Jx pre a → Ext a [] b → Jx pre b) → (∀ pre a, J pre a → K a) →
    (∀ pre x a, J pre a → V pre x → RdE P l (encs x) a fun ed b => (ed = .returned (.bool true) ∧ J (pre ++ [x]) b ∧ Kn fx m1.heap.size a b) ∨ (ed = .returned (.bool false) ∧ Jx (pre ++ [x]) b)) → J [] m1 →
    FnR P gf (.func (.yield l) #[] #[] :: lb) m1 fun _ m2 => (∃ xs, S xs ∧ J xs m2) ∨ ∃ pre, Sp pre ∧ Jx pre m2
def putPs (n : Nat) : List Tmp → List Value → Env → Option Env
  | [], [], e => some e
  | p :: ps, v :: vs, e => match Nat.blt p n with
    | true => putPs n ps vs ((p, v) :: e)
    | false => none
  | _, _, _ => none
theorem fits_ps {n : Nat} {ro : Option Nat} : ∀ (ps : List Tmp) (vs : List Value) (e e' : Env) (tmps : Array Value), Fits n e ⟨[], ro⟩ { tmps, defers := [] } → putPs n ps vs e = some e' →
    Fits n e' ⟨[], ro⟩ { tmps := (ps.zip vs).foldl (fun t (x : Tmp × Value) => t.setIfInBounds x.1 x.2) tmps, defers := [] }
  | [], [], e, e', tmps, hf, h => by simp only [putPs, Option.some.injEq] at h; subst h; exact hf
  | p :: ps, v :: vs, e, e', tmps, hf, h => by
    unfold putPs at h
    split at h
    · rename_i hp
      have h1 := hf.put (dst := some p) (v := v) (e' := (p, v) :: e) (by simp [putE, hp])
      exact fits_ps ps vs _ e' _ h1 h
    · cases h
  | [], _ :: _, _, _, _, _, h => by simp [putPs] at h
  | _ :: _, [], _, _, _, _, h => by simp [putPs] at h
def rdPost {α : Type} (fx : Bool) (B : Nat) (I : List α → World → Prop) (Ix : Code → List α → World → Prop) (pre : List α) (m2 : World) : Exit → Act → World → Prop
  | .normal, _, w => ∃ m', Sim m' w ∧ Kn fx B m2 m' ∧ I pre m'
  | .ret, _, w => ∃ m', Sim m' w ∧ Kn fx B m2 m' ∧ Ix .ret pre m'
  | .exit id, _, w => ∃ m', Sim m' w ∧ Kn fx B m2 m' ∧ Ix (.exit id) pre m'
  | _, _, _ => False
section
variable {α : Type} {fx : Bool} {B : Nat} {I : List α → World → Prop} {Ix : Code → List α → World → Prop} {pre : List α} {m2 m' : World} {n : Nat} {e : Env} {D : Fr}
theorem QN.rdNormal (hk : Kn fx B m2 m') (hi : I pre m') : QN (rdPost fx B I Ix pre m2) .normal n e D m' := fun _ _ _ hs => ⟨m', hs, hk, hi⟩
theorem QN.asgEnd {β : Type} {EA : β → Env} {IA : β → World → Prop} (y : β) (hs : Sub (EA y) e) (hk : Kn fx B m2 m') (hi : IA y m') :
    QN (Exit.then (fun a w => ∃ y m', Fits n (EA y) D a ∧ Sim m' w ∧ Kn fx B m2 m' ∧ IA y m') (fun _ _ _ => False)) .normal n e D m' := fun _ _ hf hw => ⟨y, m', hf.sub hs, hw, hk, hi⟩
end
theorem WP.rangeFunc {α β : Type} {P : Program} {Q : Exit → Act → World → Prop} {n : Nat} {e : Env} {ds : List Deferred} {m : World} {g : Operand} {ps : List Tmp} {assign body : Code} {gf : FuncId} {lb : List Value} {fx : Bool} {K : World → Prop} {V : List α → α → Prop} {S Sp : List α → Prop}
    (encs : α → List Value) (hg : e.ev g = some (.func (.func gf) #[] lb.toArray)) (hseq : SeqE P gf lb encs fx K V S Sp m) (hgf : Callable P gf)
    (I : List α → World → Prop) (Ix : Code → List α → World → Prop) (hI : ∀ pre a b, I pre a → Kc m.heap.size a b → I pre b) (hIx : ∀ c pre a b, Ix c pre a → Kc m.heap.size a b → Ix c pre b) (hIK : ∀ pre a, I pre a → K a) (h0 : I [] m)
    (E : α → Env) (hE : ∀ x, putPs n ps (encs x) e = some (E x)) (hps : ∀ x, (encs x).length = ps.length)
    (EA : α → β → Env) (IA : List α → α → β → World → Prop) (hIA : ∀ pre x y a b, IA pre x y a → Kc m.heap.size a b → IA pre x y b)
    (hassign : ∀ l pre x m1, I pre m1 → V pre x → m.heap.size ≤ m1.heap.size → WP P assign (Exit.then (fun a w => ∃ y m2, Fits n (EA x y) ⟨[], some l⟩ a ∧ Sim m2 w ∧ Kn fx m.heap.size m1 m2 ∧ IA pre x y m2) (fun _ _ _ => False)) n (E x) ⟨[], some l⟩ m1)
    (hbody : ∀ l pre x y m2, IA pre x y m2 → V pre x → m.heap.size ≤ m2.heap.size → WP P body (rdPost fx m.heap.size I Ix (pre ++ [x]) m2) n (EA x y) ⟨[], some l⟩ m2)
    (hdone : ∀ D xs m', m.heap.size ≤ D → S xs → I xs m' → m'.heap[D]? = some (.deferred (some [])) → QN Q .normal n e ⟨{ target := .collected D, args := #[] } :: ds, none⟩ m')
    (hstop : ∀ D c pre m', m.heap.size ≤ D → Sp pre → Ix c pre m' → m'.heap[D]? = some (.deferred (some [])) → WP P c Q n e ⟨{ target := .collected D, args := #[] } :: ds, none⟩ m') :
    WP P (.rangeFunc g ps.toArray assign body) Q n e ⟨ds, none⟩ m := by
  intro a w hf hw
  refine wpIn_rangeFunc (F := fenceR none) ?_
  intro fn _
  obtain ⟨B, hB⟩ : ∃ B, m.heap.size = B := ⟨_, rfl⟩
  rw [hB] at hI hIx hIA hassign hbody hdone hstop
  have hsz : w.heap.size = B := by rw [hw.heap, hB]
  obtain ⟨rec, hrec⟩ : ∃ rec : LoopState → Option Code → Loop, rec = fun st pe => { state := st, pending := pe, fn, tmps := a.tmps, params := ps.toArray, assign, body, defers := B } := ⟨_, rfl⟩
  obtain ⟨mW, hmW⟩ : ∃ mW, mW = (m.alloc (.deferred (some []))).alloc (.loop (rec .ready none)) := ⟨_, rfl⟩
  have hsW : Sim mW ((w.alloc (.deferred (some []))).alloc (.loop (rec .ready none))) := by rw [hmW]; exact (hw.alloc _).alloc _
  have hE1 : Ext m [] mW := by
    rw [hmW]
    exact ((Chg.alloc m _).new (Nat.le_refl _)).trans ((Chg.alloc _ _).new (Nat.le_refl _)) (by simp)
  have hLW : mW.heap[B + 1]? = some (.loop (rec .ready none)) := by
    rw [hmW]; have := World.alloc_heap_new (m.alloc (.deferred (some []))) (.loop (rec .ready none)); rwa [World.size_alloc, hB] at this
  have hDW : mW.heap[B]? = some (.deferred (some [])) := by
    rw [hmW, ← hB]; exact (Below.heap_alloc _ _ _ (by simp)).trans (World.alloc_heap_new m _)
  have hev : a.eval g = .func (.func gf) #[] lb.toArray := hf.ev hg
  refine ⟨B + 1, [{ target := .collected B, args := #[] }], (w.alloc (.deferred (some []))).alloc (.loop (rec .ready none)), { target := .fn (.func gf) lb.toArray, args := #[.func (.yield (B + 1)) #[] #[]] }, (w.alloc (.deferred (some []))).alloc (.loop (rec .ready none)), gf,
    #[.func (.yield (B + 1)) #[] #[]] ++ lb.toArray, (w.alloc (.deferred (some []))).alloc (.loop (rec .ready none)), ?_, ?_, fun _ _ => trivial, ?_, fun hh => (by cases hh), ?_⟩
  · have := run_enterLoop_outer (P := P) (w := w) fn a.tmps ps.toArray assign body
    rw [hsz] at this
    rw [hrec]
    exact this
  · simp only [resolve, hev]
    simp [go_sem]
  · exact invoke_fn hgf _ _ _
  · -- the iterator
    have hcall := hseq (B + 1)
      (fun pre c => I pre c ∧ c.heap[B + 1]? = some (.loop (rec .ready none)) ∧ c.heap[B]? = some (.deferred (some [])))
      (fun pre c => ∃ j, Ix j pre c ∧ c.heap[B + 1]? = some (.loop (rec .done (some j))) ∧ c.heap[B]? = some (.deferred (some [])))
      mW hE1
      (fun pre c c' ⟨h1, h2, h3⟩ hE => ⟨hI pre c c' h1 hE.kc, (hE.far _ (Array.getElem?_eq_some_iff.1 h2).1 (by simp)).trans h2, (hE.far _ (Array.getElem?_eq_some_iff.1 h3).1 (by simp)).trans h3⟩)
      (fun pre c c' ⟨j, h1, h2, h3⟩ hE => ⟨j, hIx j pre c c' h1 hE.kc, (hE.far _ (Array.getElem?_eq_some_iff.1 h2).1 (by simp)).trans h2, (hE.far _ (Array.getElem?_eq_some_iff.1 h3).1 (by simp)).trans h3⟩)
      (fun pre c ⟨h1, _⟩ => hIK pre c h1)
      ?_ ⟨hI [] m mW h0 hE1.kc, hLW, hDW⟩
    · have hc := Calls.fr ⟨[], none⟩ (0 - 1) (hcall.2 _ hsW)
      have harr : (Value.func (Fn.yield (B + 1)) #[] #[] :: lb).toArray = #[.func (.yield (B + 1)) #[] #[]] ++ lb.toArray := by simp
      rw [harr] at hc
      refine CallsIn.mono hc ?_
      rintro ed w2 ⟨m2, hs2, v, rfl, ⟨xs, hS, hi, hl, hk⟩ | ⟨pre, hSp, j, hi, hl, hk⟩⟩
      · have hl' : w2.heap[B + 1]? = some (.loop (rec .ready none)) := by rw [hs2.heap]; exact hl
        have hend := run_endLoop (P := P) hl' (by rw [hrec]; simp)
        refine ⟨none, w2.putObj (B + 1) (.loop { rec .ready none with state := .exhausted }), by rw [hend, hrec], ?_⟩
        have hq := hdone B xs (m2.putObj (B + 1) (.loop { rec .ready none with state := .exhausted })) (Nat.le_refl _) hS (hI xs m2 _ hi (putObj_kc hl rfl (by omega))) ((World.putObj_heap_other (by omega)).trans hk)
        exact hq _ _ ⟨hf.size, by show _ ++ _ = _ :: ds; rw [hf.defers]; rfl, hf.get⟩ (hs2.putObj _ _)
      · have hl' : w2.heap[B + 1]? = some (.loop (rec .done (some j))) := by rw [hs2.heap]; exact hl
        have hend := run_endLoop (P := P) hl' (by rw [hrec]; simp)
        refine ⟨some j, w2.putObj (B + 1) (.loop { rec .done (some j) with state := .exhausted }), by rw [hend, hrec], ?_⟩
        have hq := hstop B j pre (m2.putObj (B + 1) (.loop { rec .done (some j) with state := .exhausted })) (Nat.le_refl _) hSp (hIx j pre m2 _ hi (putObj_kc hl rfl (by omega))) ((World.putObj_heap_other (by omega)).trans hk)
        exact hq _ _ ⟨hf.size, by show _ ++ _ = _ :: ds; rw [hf.defers]; rfl, hf.get⟩ (hs2.putObj _ _)
    · -- one round
      rintro pre x c ⟨hi, hl, hk⟩ hlen wc hsc
      have hlw : wc.heap[B + 1]? = some (.loop (rec .ready none)) := by rw [hsc.heap]; exact hl
      have hy := run_yield (P := P) (args := (encs x).toArray) hlw (by rw [hrec]; simpa using hps x)
      rw [hrec] at hy
      refine ⟨fn, _, assign, body, hy, roundIn_of_wpIn (n := 0) trivial ?_⟩
      clear hy
      have hft : Fits n (E x) ⟨[], some (B + 1)⟩ { tmps := (ps.zip (encs x)).foldl (fun t (x : Tmp × Value) => t.setIfInBounds x.1 x.2) a.tmps, defers := [] } :=
        fits_ps ps (encs x) e (E x) a.tmps ⟨hf.size, rfl, hf.get⟩ (hE x)
      have hsizec : B ≤ c.heap.size := by have := (Array.getElem?_eq_some_iff.1 hl).1; omega
      have has := hassign (B + 1) pre x c hi hlen hsizec _ wc hft hsc
      have hzip : (ps.toArray.zip (encs x).toArray).foldl (fun tmps (t, a) => tmps.setIfInBounds t a) a.tmps = (ps.zip (encs x)).foldl (fun t (x : Tmp × Value) => t.setIfInBounds x.1 x.2) a.tmps := by
        simp [List.zip_toArray]
      rw [hzip]
      refine wpIn_mono has ?_
      intro ex a1 w1 hq
      cases ex with
      | normal =>
        obtain ⟨y, c1, hf1, hs1, hkn1, hia1⟩ := hq
        have hl1 := hkn1 _ _ (by omega) hl (.inr rfl)
        have hk1 := hkn1 _ _ (Nat.le_refl _) hk (.inr rfl)
        have hl1w : w1.heap[B + 1]? = some (.loop (rec .ready none)) := by rw [hs1.heap]; exact hl1
        refine ⟨_, run_beginRound hl1w (by rw [hrec]), ?_⟩
        have hlt1 := (Array.getElem?_eq_some_iff.1 hl1).1
        obtain ⟨c2, hc2⟩ : ∃ c2, c2 = c1.putObj (B + 1) (.loop { rec .ready none with state := .busy }) := ⟨_, rfl⟩
        have hl2 : c2.heap[B + 1]? = some (.loop { rec .ready none with state := .busy }) := by rw [hc2]; exact World.putObj_heap_same hlt1
        have hk2 : c2.heap[B]? = some (.deferred (some [])) := by rw [hc2]; exact (World.putObj_heap_other (by omega)).trans hk1
        have hs2 : Sim c2 (w1.putObj (B + 1) (.loop { rec .ready none with state := .busy })) := by rw [hc2]; exact hs1.putObj _ _
        have hia2 : IA pre x y c2 := by rw [hc2]; exact hIA pre x y c1 _ hia1 (putObj_kc hl1 rfl (by omega))
        have hsz2 : B ≤ c2.heap.size := by have := (Array.getElem?_eq_some_iff.1 hl2).1; omega
        have hb := hbody (B + 1) pre x y c2 hia2 hlen hsz2 _ _ hf1 hs2
        refine wpIn_mono hb ?_
        have fin : ∀ (jump : Option Code) (c3 w3 : World), Sim c3 w3 → Kn fx B c2 c3 →
            (Instr.endRound (B + 1) jump).run P w3 = .ok (.bool jump.isNone) (w3.putObj (B + 1) (.loop (rec (if jump.isNone then .ready else .done) jump))) ∧
            Kc B c3 (c3.putObj (B + 1) (.loop (rec (if jump.isNone then .ready else .done) jump))) ∧
            (c3.putObj (B + 1) (.loop (rec (if jump.isNone then .ready else .done) jump))).heap[B + 1]? = some (.loop (rec (if jump.isNone then .ready else .done) jump)) ∧
            (c3.putObj (B + 1) (.loop (rec (if jump.isNone then .ready else .done) jump))).heap[B]? = some (.deferred (some [])) := fun jump c3 w3 hs3 hk3 => by
          have hl3 := hk3 _ _ (by omega) hl2 (.inr rfl)
          have hd3 := hk3 _ _ (Nat.le_refl _) hk2 (.inr rfl)
          have hl3w : w3.heap[B + 1]? = some (.loop { rec .ready none with state := .busy }) := by rw [hs3.heap]; exact hl3
          have hend := run_endRound (P := P) jump hl3w
          rw [hrec] at hend ⊢
          exact ⟨hend, putObj_kc hl3 rfl (by omega), World.putObj_heap_same (Array.getElem?_eq_some_iff.1 hl3).1, (World.putObj_heap_other (by omega)).trans hd3⟩
        intro ex3 a3 w3 hq3
        cases ex3 with
        | normal =>
          obtain ⟨c3, hs3, hkn3, hi3⟩ := hq3
          obtain ⟨h1, h2, h3, h4⟩ := fin none c3 w3 hs3 hkn3
          exact ⟨_, _, h1, _, hs3.putObj _ _, .inl ⟨rfl, ⟨hI _ c3 _ hi3 h2, h3, h4⟩, fun k o hk1 hk2 hk3 => by
            have hWs : mW.heap.size = B + 2 := by rw [hmW, World.size_alloc, World.size_alloc, hB]
            exact (World.putObj_heap_other (by omega)).trans (hkn3 k o (by omega) (by rw [hc2]; exact (World.putObj_heap_other (by omega)).trans (hkn1 k o (by omega) hk2 hk3)) hk3)⟩⟩
        | ret =>
          obtain ⟨c3, hs3, hkn3, hi3⟩ := hq3
          obtain ⟨h1, h2, h3, h4⟩ := fin (some .ret) c3 w3 hs3 hkn3
          exact ⟨_, _, h1, _, hs3.putObj _ _, .inr ⟨rfl, _, hIx _ _ c3 _ hi3 h2, h3, h4⟩⟩
        | exit id =>
          obtain ⟨c3, hs3, hkn3, hi3⟩ := hq3
          obtain ⟨h1, h2, h3, h4⟩ := fin (some (.exit id)) c3 w3 hs3 hkn3
          exact ⟨_, _, h1, _, hs3.putObj _ _, .inr ⟨rfl, _, hIx _ _ c3 _ hi3 h2, h3, h4⟩⟩
        | goto t => exact hq3.elim
        | panic ch => exact hq3.elim
        | outgrown => exact hq3.elim
      | exit id => exact hq.elim
      | goto t => exact hq.elim
      | ret => exact hq.elim
      | panic ch => exact hq.elim
      | outgrown => exact hq.elim
def bodyQM (P : Program) (fn : Func) (post : Ending → World → Prop) : Exit → Act → World → Prop := bodyPostM Fence.wide 0 P fn fun e w' => ∃ m', Sim m' w' ∧ post e m'
theorem FnE.enterM {P : Program} {f : FuncId} {fn : Func} {c : Code} {args : List Value} {m : World} {post : Ending → World → Prop} (hc : Callable P f)
    (hf : P.funcs[f]? = some fn) (hb : fn.body = some c) (hn : Nat.ble args.length fn.ntmps = true) (h : WP P c (bodyQM P fn post) fn.ntmps (argsEnv 0 args) ⟨[], none⟩ m) : FnE P f args m post :=
  ⟨hc, fun w hs => (callsIn_wide (n := 0)).1 (callsIn_of_wp_marks hf hb trivial (h _ w (args_fits hn) hs))⟩
theorem QN.leaveM {P : Program} {fn : Func} {post : Ending → World → Prop} {n : Nat} {e : Env} {m : World} {Dk : Nat} {r : Value} {x : Exit} (hx : x = .ret ∨ x = .normal) (hk : m.heap[Dk]? = some (.deferred (some [])))
    (h : ∀ m', Kc Dk m m' → (∀ k, k ≠ Dk → m'.heap[k]? = m.heap[k]?) → Res P fn n e ⟨[{ target := .collected Dk, args := #[] }], none⟩ m' r ∧ post (.returned r) m') :
    QN (bodyQM P fn post) x n e ⟨[{ target := .collected Dk, args := #[] }], none⟩ m := by
  intro a w hf hs
  have hkw : w.heap[Dk]? = some (.deferred (some [])) := by rw [hs.heap]; exact hk
  have key : LeavesInM Fence.wide 0 P fn a.tmps (fun e w' => ∃ m', Sim m' w' ∧ post e m') a.defers .returning w := by
    rw [hf.defers]
    refine ⟨by simp, .inl ⟨Dk, _, rfl, run_takeDeferred hkw, ?_⟩⟩
    obtain ⟨h1, h2⟩ := h (m.putObj Dk (.deferred none)) (putObj_kc hk rfl (Nat.le_refl _)) (fun k hk => World.putObj_heap_other hk)
    exact ⟨r, h1 a _ hf (hs.putObj _ _), _, hs.putObj _ _, h2⟩
  rcases hx with rfl | rfl
  · exact key
  · exact key
end Go.Ev
end
section
namespace Go.Ev
open Go.RowKit
section
variable {P : Program} {T : Ty} {ops : Array Oper} {Q : Exit → Act → World → Prop} {J : World → Prop} {fin : List Nat} {fuel : Nat} {listed : Array Bool} {rest : List Oper} {n : Nat} {e e' : Env} {D : Fr} {ds : List Deferred} {m : World}
  {d : Option Tmp} {x y : Operand} {t ty : TypeId} {pos : String} {aft : Array Edge} {g : Option (Nat × Bool)}
def Ty.arr1 (T : Ty) (t : TypeId) : Option Nat := match T.row t with
  | some rt => match rt.k with
    | .arr k te => match T.row te with
      | some r => match r.size with
        | 1 => some k
        | _ => none
      | none => none
    | _ => none
  | none => none
theorem Ty.arr1_spec {T : Ty} (hT : T.Ok P) {t : TypeId} {k : Nat} (h : T.arr1 t = some k) : ∃ te, P.underlying t = some (.array k te) ∧ ∀ w, (sizeOf te).run P w = .ok 1 w := by
  unfold Ty.arr1 at h
  split at h
  · rename_i rt hrt
    split at h
    · rename_i k' te hk
      split at h
      · rename_i r hr
        split at h
        · rename_i hs
          injection h with h; subst h
          have hu := (hT.row hrt).k; rw [hk] at hu
          refine ⟨te, hu, fun w => ?_⟩
          have := (hT.row hr).run_size w
          rw [hs] at this; exact this
        · cases h
      · cases h
    · cases h
  · cases h
theorem run_indexArr (hT : T.Ok P) {len k b : Nat} {kk : IntKind} (ht : T.arr1 t = some len) (hlt : k < len) (w : World) : (Instr.indexAt t (.pointer (some ⟨b, 0, none⟩)) (.int kk (k : Int))).run P w = .ok (.pointer (some ⟨b, k, none⟩)) w := by
  obtain ⟨te, hu, hsz⟩ := Ty.arr1_spec hT ht
  have h1 : (⟨b, 0, none⟩ : Addr).add (k * 1) = ⟨b, k, none⟩ := by rw [add_block]; simp
  have h2 : (⟨b, 0, none⟩ : Addr).add k = ⟨b, k, none⟩ := by rw [add_block]; simp
  simp [Instr.indexAt, asIntOf, run_underlying hu, Instr.sureAddr, hsz, hlt, h2]
theorem RL.arr (hT : T.Ok P) {len b k : Nat} {j : Int} {kk : IntKind} (ht : T.arr1 t = some len) (hg : gd ops e ⟨d, .indexAddr t x y, ty, pos, aft, g⟩ = some true) (hx : e.ev x = some (.pointer (some ⟨b, 0, none⟩))) (hy : e.ev y = some (.int kk j)) (hj : j = (k : Int)) (hlt : k < len)
    (hp : putE n d (.pointer (some ⟨b, k, none⟩)) e = some e') (h : RL P ops Q rest n e' D m) : RL P ops Q (⟨d, .indexAddr t x y, ty, pos, aft, g⟩ :: rest) n e D m := by
  subst hj
  refine RL.value _ hg (fun a w hf hs => ?_) hp h
  simp [execOp, hf.ev hx, hf.ev hy, run_indexArr hT ht hlt]
theorem RH.arr (hT : T.Ok P) (hQ : PanicOk Q) (i : Nat) {len b k : Nat} {j : Int} {kk : IntKind} (hi : ops[i]? = some ⟨d, .indexAddr t x y, ty, pos, aft, g⟩) (hB : (Region.noSelect ops && takesB ops fin listed [i]) = true) (ht : T.arr1 t = some len)
    (hg : gd ops e ⟨d, .indexAddr t x y, ty, pos, aft, g⟩ = some true) (hx : e.ev x = some (.pointer (some ⟨b, 0, none⟩))) (hy : e.ev y = some (.int kk j)) (hj : j = (k : Int)) (hlt : k < len)
    (hp : putE n d (.pointer (some ⟨b, k, none⟩)) e = some e') (h : RH P ops Q J fin fuel (listed.setIfInBounds i true) n e' ds m) : RH P ops Q J fin (fuel + 1) listed n e ds m := by
  simp only [takesB, Bool.and_eq_true, Bool.and_true] at hB
  subst hj
  refine RH.take hi hB.1 hB.2.1 hB.2.2 hQ (fun a hf => .inl ⟨gd_sound hf hg, fun w _ => ?_⟩) hp h
  simp [execOp, hf.ev hx, hf.ev hy, run_indexArr hT ht hlt]
theorem RH.eqv {k : Nat} {v v' : Value} (hv : v = v') (h : RH P ops Q J fin fuel listed n ((k, v') :: e) ds m) : RH P ops Q J fin fuel listed n ((k, v) :: e) ds m := by subst hv; exact h
end
end Go.Ev
end
section
namespace Go.Proofs.YtmjpcaiehfimgaaGreatDoor
open Go.RowKit Go.Ev Go.Ids
def rC (x : Rng) : List Value := [.int .u64 x.c, .int .u64 x.f, .int .u64 x.t]
def rV (x : Rng) : Value := .agg (rC x).toArray
structure Idn where
  c : Nat
  k : Nat
def iC (x : Idn) : List Value := [.int .u64 x.c, .int .u64 x.k]
def iV (x : Idn) : Value := .agg (iC x).toArray
def Idn.right (x : Idn) : Bool := num x.c && num x.k
def Idn.lt (x y : Idn) : Bool := decide (x.c < y.c) || (decide (x.c = y.c) && decide (x.k < y.k))
theorem dge (a : Nat) (b : Int) (c : Nat) (h : b = c) : decide ((a : Int) ≥ b) = decide (c ≤ a) := by subst h; rw [decide_eq_decide]; omega
theorem dle (a : Nat) (b : Int) (c : Nat) (h : b = c) : decide ((a : Int) ≤ b) = decide (a ≤ c) := by subst h; rw [decide_eq_decide]; omega
theorem dlt (a c : Nat) : decide ((a : Int) < (c : Int)) = decide (a < c) := by rw [decide_eq_decide]; omega
theorem deq (a c : Nat) : ((a : Int) == (c : Int)) = decide (a = c) := by
  by_cases h : a = c
  · simp [h]
  · have : ¬ (a : Int) = (c : Int) := by omega
    simp [h, this]
theorem number_c (m : World) (n : Nat) : FnR Tryz.prog 77 [.int .u64 n] m fun r m' => r = .bool (num n) ∧ m' = m := by
  refine FnE.enter ⟨_, Tryz.func77, by kernel_rfl, by kernel_rfl⟩ Tryz.func77 rfl rfl ?_
  (with_reducible repeat (first | refine WP.S1 ?_ | refine WP.B1 ?_ | refine WP.R1 ?_))
  refine RL.A1 T_ok rfl ?_
  refine RL.N1 ?_; (with_reducible repeat (first | refine QN.B1 ?_ | refine QN.N1 ?_ | refine WP.S1 ?_ | refine WP.B1 ?_ | refine WP.R1 ?_))
  refine RL.pure T_ok 3 rfl ?_
  by_cases h : 1 ≤ n
  · refine RL.eqv (v' := .bool true) (congrArg _ (by rw [dge n 1 1 rfl]; exact decide_eq_true h)) ?_
    refine RL.A1 T_ok rfl ?_
    refine RL.N1 ?_; (with_reducible repeat (first | refine QN.B1 ?_ | refine QN.N1 ?_ | refine WP.S1 ?_ | refine WP.B1 ?_ | refine WP.R1 ?_))
    refine WP.ret ?_; (with_reducible repeat (first | refine QN.tr ?_ | refine QN.br ?_))
    refine QN.ret1 rfl rfl ⟨_, rfl, congrArg _ ?_, rfl⟩
    rw [dle n 9007199254740991 9007199254740991 rfl]; simp [num, h]
  · refine RL.eqv (v' := .bool false) (congrArg _ (by rw [dge n 1 1 rfl]; exact decide_eq_false h)) ?_
    refine RL.A1 T_ok rfl ?_
    refine RL.N1 ?_; (with_reducible repeat (first | refine QN.B1 ?_ | refine QN.N1 ?_ | refine WP.S1 ?_ | refine WP.B1 ?_ | refine WP.R1 ?_))
    refine WP.ret ?_; (with_reducible repeat (first | refine QN.tr ?_ | refine QN.br ?_))
    refine QN.ret1 rfl rfl ⟨_, rfl, congrArg _ ?_, rfl⟩
    simp [num, h]
theorem right_c (m : World) (x : Rng) : FnR Tryz.prog 76 [rV x] m fun r m' => r = .bool x.right ∧ Ext m [] m' := by
  refine FnE.enter ⟨_, Tryz.func76, by kernel_rfl, by kernel_rfl⟩ Tryz.func76 rfl rfl ?_
  (with_reducible repeat (first | refine WP.S1 ?_ | refine WP.B1 ?_ | refine WP.R1 ?_))
  refine RL.box rfl rfl (fun b m1 hb hC => ⟨_, rfl, ?_⟩)
  have hB : Blk m1 b 114 (rC x) := hC.here
  have hE : Ext m [] m1 := hC.new (by omega)
  clear hC
  refine RL.A1 T_ok rfl ?_
  refine RL.N1 ?_; (with_reducible repeat (first | refine QN.B1 ?_ | refine QN.N1 ?_ | refine WP.S1 ?_ | refine WP.B1 ?_ | refine WP.R1 ?_))
  repeat (first | refine RL.pure T_ok 1 rfl ?_ | refine RL.load T_ok rfl rfl rfl (hB.cell _ rfl) rfl ?_)
  refine RL.call (fi := []) (ca := []) rfl rfl rfl rfl (number_c m1 x.c) ?_
  rintro _ m2 ⟨rfl, rfl⟩
  refine ⟨_, rfl, ?_⟩
  refine RL.pure T_ok 1 rfl ?_
  by_cases h1 : num x.c = true
  · refine RL.eqv (v' := .bool true) (congrArg _ h1) ?_
    repeat (first | refine RL.pure T_ok 1 rfl ?_ | refine RL.load T_ok rfl rfl rfl (hB.cell _ rfl) rfl ?_)
    by_cases h2 : 1 ≤ x.f
    · refine RL.eqv (v' := .bool true) (congrArg _ (by rw [dge x.f 1 1 rfl]; exact decide_eq_true h2)) ?_
      repeat (first | refine RL.pure T_ok 1 rfl ?_ | refine RL.load T_ok rfl rfl rfl (hB.cell _ rfl) rfl ?_)
      by_cases h3 : x.f < x.t
      · refine RL.eqv (v' := .bool true) (congrArg _ (by rw [dlt]; exact decide_eq_true h3)) ?_
        repeat (first | refine RL.pure T_ok 1 rfl ?_ | refine RL.load T_ok rfl rfl rfl (hB.cell _ rfl) rfl ?_)
        refine RL.N1 ?_; (with_reducible repeat (first | refine QN.B1 ?_ | refine QN.N1 ?_ | refine WP.S1 ?_ | refine WP.B1 ?_ | refine WP.R1 ?_))
        refine WP.ret ?_; (with_reducible repeat (first | refine QN.tr ?_ | refine QN.br ?_))
        refine QN.ret1 rfl rfl ⟨_, rfl, congrArg _ ?_, hE⟩
        rw [dle x.t 9007199254740992 9007199254740992 rfl]; simp [Rng.right, h1, h2, h3]
      · refine RL.eqv (v' := .bool false) (congrArg _ (by rw [dlt]; exact decide_eq_false h3)) ?_
        repeat (first | refine RL.pure T_ok 1 rfl ?_ | refine RL.load T_ok rfl rfl rfl (hB.cell _ rfl) rfl ?_)
        refine RL.N1 ?_; (with_reducible repeat (first | refine QN.B1 ?_ | refine QN.N1 ?_ | refine WP.S1 ?_ | refine WP.B1 ?_ | refine WP.R1 ?_))
        refine WP.ret ?_; (with_reducible repeat (first | refine QN.tr ?_ | refine QN.br ?_))
        refine QN.ret1 rfl rfl ⟨_, rfl, congrArg _ ?_, hE⟩
        simp [Rng.right, h1, h2, h3]
    · refine RL.eqv (v' := .bool false) (congrArg _ (by rw [dge x.f 1 1 rfl]; exact decide_eq_false h2)) ?_
      repeat (first | refine RL.pure T_ok 1 rfl ?_ | refine RL.load T_ok rfl rfl rfl (hB.cell _ rfl) rfl ?_)
      refine RL.N1 ?_; (with_reducible repeat (first | refine QN.B1 ?_ | refine QN.N1 ?_ | refine WP.S1 ?_ | refine WP.B1 ?_ | refine WP.R1 ?_))
      refine WP.ret ?_; (with_reducible repeat (first | refine QN.tr ?_ | refine QN.br ?_))
      refine QN.ret1 rfl rfl ⟨_, rfl, congrArg _ ?_, hE⟩
      simp [Rng.right, h1, h2]
  · refine RL.eqv (v' := .bool false) (congrArg _ (Bool.not_eq_true _ ▸ h1)) ?_
    repeat (first | refine RL.pure T_ok 1 rfl ?_ | refine RL.load T_ok rfl rfl rfl (hB.cell _ rfl) rfl ?_)
    refine RL.N1 ?_; (with_reducible repeat (first | refine QN.B1 ?_ | refine QN.N1 ?_ | refine WP.S1 ?_ | refine WP.B1 ?_ | refine WP.R1 ?_))
    refine WP.ret ?_; (with_reducible repeat (first | refine QN.tr ?_ | refine QN.br ?_))
    refine QN.ret1 rfl rfl ⟨_, rfl, congrArg _ ?_, hE⟩
    simp [Rng.right, h1]
theorem refrightR_c (m : World) (x : Rng) : FnR Tryz.prog 109 [rV x] m fun r m' => r = .bool x.right ∧ Ext m [] m' := by
  refine FnE.enter ⟨_, Tryz.func109, by kernel_rfl, by kernel_rfl⟩ Tryz.func109 rfl rfl ?_
  (with_reducible repeat (first | refine WP.S1 ?_ | refine WP.B1 ?_ | refine WP.R1 ?_))
  refine RL.box rfl rfl (fun b m1 hb hC => ⟨_, rfl, ?_⟩)
  have hB : Blk m1 b 114 (rC x) := hC.here
  have hE : Ext m [] m1 := hC.new (by omega)
  clear hC
  refine RL.A1 T_ok rfl ?_
  refine RL.N1 ?_; (with_reducible repeat (first | refine QN.B1 ?_ | refine QN.N1 ?_ | refine WP.S1 ?_ | refine WP.B1 ?_ | refine WP.R1 ?_))
  repeat (first | refine RL.pure T_ok 1 rfl ?_ | refine RL.load T_ok rfl rfl rfl (hB.cell _ rfl) rfl ?_)
  by_cases h1 : 1 ≤ x.c
  · refine RL.eqv (v' := .bool true) (congrArg _ (by rw [dge x.c 1 1 rfl]; exact decide_eq_true h1)) ?_
    repeat (first | refine RL.pure T_ok 1 rfl ?_ | refine RL.load T_ok rfl rfl rfl (hB.cell _ rfl) rfl ?_)
    by_cases h2 : x.c ≤ 9007199254740991
    · refine RL.eqv (v' := .bool true) (congrArg _ (by rw [dle x.c 9007199254740991 9007199254740991 rfl]; exact decide_eq_true h2)) ?_
      repeat (first | refine RL.pure T_ok 1 rfl ?_ | refine RL.load T_ok rfl rfl rfl (hB.cell _ rfl) rfl ?_)
      by_cases h3 : 1 ≤ x.f
      · refine RL.eqv (v' := .bool true) (congrArg _ (by rw [dge x.f 1 1 rfl]; exact decide_eq_true h3)) ?_
        repeat (first | refine RL.pure T_ok 1 rfl ?_ | refine RL.load T_ok rfl rfl rfl (hB.cell _ rfl) rfl ?_)
        by_cases h4 : x.f < x.t
        · refine RL.eqv (v' := .bool true) (congrArg _ (by rw [dlt]; exact decide_eq_true h4)) ?_
          repeat (first | refine RL.pure T_ok 1 rfl ?_ | refine RL.load T_ok rfl rfl rfl (hB.cell _ rfl) rfl ?_)
          refine RL.N1 ?_; (with_reducible repeat (first | refine QN.B1 ?_ | refine QN.N1 ?_ | refine WP.S1 ?_ | refine WP.B1 ?_ | refine WP.R1 ?_))
          refine WP.ret ?_; (with_reducible repeat (first | refine QN.tr ?_ | refine QN.br ?_))
          refine QN.ret1 rfl rfl ⟨_, rfl, congrArg _ ?_, hE⟩
          rw [dle x.t 9007199254740992 9007199254740992 rfl]; simp [Rng.right, num, h1, h2, h3, h4]
        · refine RL.eqv (v' := .bool false) (congrArg _ (by rw [dlt]; exact decide_eq_false h4)) ?_
          repeat (first | refine RL.pure T_ok 1 rfl ?_ | refine RL.load T_ok rfl rfl rfl (hB.cell _ rfl) rfl ?_)
          refine RL.N1 ?_; (with_reducible repeat (first | refine QN.B1 ?_ | refine QN.N1 ?_ | refine WP.S1 ?_ | refine WP.B1 ?_ | refine WP.R1 ?_))
          refine WP.ret ?_; (with_reducible repeat (first | refine QN.tr ?_ | refine QN.br ?_))
          refine QN.ret1 rfl rfl ⟨_, rfl, congrArg _ ?_, hE⟩
          simp [Rng.right, num, h1, h2, h3, h4]
      · refine RL.eqv (v' := .bool false) (congrArg _ (by rw [dge x.f 1 1 rfl]; exact decide_eq_false h3)) ?_
        repeat (first | refine RL.pure T_ok 1 rfl ?_ | refine RL.load T_ok rfl rfl rfl (hB.cell _ rfl) rfl ?_)
        refine RL.N1 ?_; (with_reducible repeat (first | refine QN.B1 ?_ | refine QN.N1 ?_ | refine WP.S1 ?_ | refine WP.B1 ?_ | refine WP.R1 ?_))
        refine WP.ret ?_; (with_reducible repeat (first | refine QN.tr ?_ | refine QN.br ?_))
        refine QN.ret1 rfl rfl ⟨_, rfl, congrArg _ ?_, hE⟩
        simp [Rng.right, num, h1, h2, h3]
    · refine RL.eqv (v' := .bool false) (congrArg _ (by rw [dle x.c 9007199254740991 9007199254740991 rfl]; exact decide_eq_false h2)) ?_
      repeat (first | refine RL.pure T_ok 1 rfl ?_ | refine RL.load T_ok rfl rfl rfl (hB.cell _ rfl) rfl ?_)
      refine RL.N1 ?_; (with_reducible repeat (first | refine QN.B1 ?_ | refine QN.N1 ?_ | refine WP.S1 ?_ | refine WP.B1 ?_ | refine WP.R1 ?_))
      refine WP.ret ?_; (with_reducible repeat (first | refine QN.tr ?_ | refine QN.br ?_))
      refine QN.ret1 rfl rfl ⟨_, rfl, congrArg _ ?_, hE⟩
      simp [Rng.right, num, h1, h2]
  · refine RL.eqv (v' := .bool false) (congrArg _ (by rw [dge x.c 1 1 rfl]; exact decide_eq_false h1)) ?_
    repeat (first | refine RL.pure T_ok 1 rfl ?_ | refine RL.load T_ok rfl rfl rfl (hB.cell _ rfl) rfl ?_)
    refine RL.N1 ?_; (with_reducible repeat (first | refine QN.B1 ?_ | refine QN.N1 ?_ | refine WP.S1 ?_ | refine WP.B1 ?_ | refine WP.R1 ?_))
    refine WP.ret ?_; (with_reducible repeat (first | refine QN.tr ?_ | refine QN.br ?_))
    refine QN.ret1 rfl rfl ⟨_, rfl, congrArg _ ?_, hE⟩
    simp [Rng.right, num, h1]
end Go.Proofs.YtmjpcaiehfimgaaGreatDoor
end
section
namespace Go.Mrg
open Go.Sort
variable {α : Type}
def sw (l : List α) (p q : Nat) : List α :=
  match l[p]?, l[q]? with
  | some x, some y => (l.set p y).set q x
  | _, _ => l
theorem sw_of {l : List α} {p q : Nat} (hp : p < l.length) (hq : q < l.length) : sw l p q = (l.set p l[q]).set q l[p] := by
  unfold sw
  rw [List.getElem?_eq_getElem hp, List.getElem?_eq_getElem hq]
theorem sw_len (l : List α) (p q : Nat) : (sw l p q).length = l.length := by
  unfold sw
  split <;> simp
theorem sw_get {l : List α} {p q : Nat} (hp : p < l.length) (hq : q < l.length) (k : Nat) : (sw l p q)[k]? = if k = q then l[p]? else if k = p then l[q]? else l[k]? := by
  rw [sw_of hp hq]
  by_cases h1 : k = q
  · subst h1
    rw [if_pos rfl, List.getElem?_set_self (by simpa using hq), List.getElem?_eq_getElem hp]
  · rw [if_neg h1, List.getElem?_set_ne (Ne.symm h1)]
    by_cases h2 : k = p
    · subst h2
      rw [if_pos rfl, List.getElem?_set_self hp, List.getElem?_eq_getElem hq]
    · rw [if_neg h2, List.getElem?_set_ne (Ne.symm h2)]
theorem set_perm_aux : ∀ (l : List α) (q : Nat) (x : α) (hq : q < l.length), (l[q] :: l.set q x).Perm (x :: l)
  | y :: l, 0, x, _ => by simpa using List.Perm.swap x y l
  | y :: l, q + 1, x, hq => by
    have hq : q < l.length := by simpa using hq
    have := set_perm_aux l q x hq
    have h1 : (l[q] :: y :: l.set q x).Perm (y :: l[q] :: l.set q x) := List.Perm.swap _ _ _
    have h2 : (y :: l[q] :: l.set q x).Perm (y :: x :: l) := this.cons y
    simpa using h1.trans (h2.trans (List.Perm.swap _ _ _))
theorem sw_perm (l : List α) (p q : Nat) : (sw l p q).Perm l := by
  unfold sw
  split
  · rename_i x y hx hy
    obtain ⟨hp, rfl⟩ := List.getElem?_eq_some_iff.1 hx
    obtain ⟨hq, rfl⟩ := List.getElem?_eq_some_iff.1 hy
    have h1 := set_perm_aux l p l[q] hp
    have h2 := set_perm_aux (l.set p l[q]) q l[p] (by simpa using hq)
    have h3 : (l.set p l[q])[q]'(by simpa using hq) = l[q] := by
      by_cases h : p = q
      · subst h; simp
      · rw [List.getElem_set_ne h]
    rw [h3] at h2
    exact List.Perm.cons_inv (h2.trans h1)
  · exact List.Perm.refl _
structure Seg (a b : Nat) (l l' : List α) : Prop where
  perm : l'.Perm l
  out : ∀ k, k < a ∨ b ≤ k → l'[k]? = l[k]?
  all : ∀ p : α → Prop, (∀ k x, a ≤ k → k < b → l[k]? = some x → p x) → ∀ k x, a ≤ k → k < b → l'[k]? = some x → p x
theorem Seg.refl (a b : Nat) (l : List α) : Seg a b l l := ⟨List.Perm.refl _, fun _ _ => rfl, fun _ h => h⟩
theorem Seg.trans {a b : Nat} {l l' l'' : List α} (h : Seg a b l l') (h' : Seg a b l' l'') : Seg a b l l'' :=
  ⟨h'.perm.trans h.perm, fun k hk => (h'.out k hk).trans (h.out k hk), fun p hp => h'.all p (h.all p hp)⟩
theorem Seg.len {a b : Nat} {l l' : List α} (h : Seg a b l l') : l'.length = l.length := h.perm.length_eq
theorem Seg.mono {a b a' b' : Nat} {l l' : List α} (h : Seg a b l l') (h1 : a' ≤ a) (h2 : b ≤ b') : Seg a' b' l l' := by
  refine ⟨h.perm, fun k hk => h.out k (by omega), fun p hp k x hk1 hk2 hx => ?_⟩
  by_cases hk : a ≤ k ∧ k < b
  · exact h.all p (fun k x g1 g2 => hp k x (by omega) (by omega)) k x hk.1 hk.2 hx
  · rw [h.out k (by omega)] at hx
    exact hp k x hk1 hk2 hx
theorem Seg.sw {a b p q : Nat} {l : List α} (hp : a ≤ p ∧ p < b) (hq : a ≤ q ∧ q < b) (hb : b ≤ l.length) : Seg a b l (sw l p q) := by
  have g := sw_get (l := l) (p := p) (q := q) (by omega) (by omega)
  refine ⟨sw_perm _ _ _, fun k hk => ?_, fun P hP k x hk1 hk2 hx => ?_⟩
  · rw [g, if_neg (by omega), if_neg (by omega)]
  · rw [g] at hx
    split at hx
    · exact hP p x hp.1 hp.2 hx
    · split at hx
      · exact hP q x hq.1 hq.2 hx
      · exact hP k x hk1 hk2 hx
def swr (l : List α) (a b : Nat) : Nat → List α
  | 0 => l
  | n + 1 => sw (swr l a b n) (a + n) (b + n)
theorem swr_len (l : List α) (a b : Nat) : ∀ n, (swr l a b n).length = l.length
  | 0 => rfl
  | n + 1 => by show (sw _ _ _).length = _; rw [sw_len, swr_len l a b n]
theorem swr_get {l : List α} {a b : Nat} : ∀ {n : Nat}, a + n ≤ b → b + n ≤ l.length → ∀ k, (swr l a b n)[k]? = if a ≤ k ∧ k < a + n then l[k + (b - a)]? else if b ≤ k ∧ k < b + n then l[k - (b - a)]? else l[k]?
  | 0, _, _, k => by rw [if_neg (by omega), if_neg (by omega)]; rfl
  | n + 1, h1, h2, k => by
    have ih := swr_get (l := l) (a := a) (b := b) (n := n) (by omega) (by omega)
    have hl := swr_len l a b n
    show (sw (swr l a b n) (a + n) (b + n))[k]? = _
    rw [sw_get (by omega) (by omega), ih, ih, ih]
    by_cases c1 : k = b + n
    · subst c1
      rw [if_pos rfl, if_neg (by omega), if_neg (by omega), if_neg (by omega), if_pos (by omega)]
      congr 1; omega
    · rw [if_neg c1]
      by_cases c2 : k = a + n
      · subst c2
        rw [if_pos rfl, if_neg (by omega), if_neg (by omega), if_pos (by omega)]
        congr 1; omega
      · rw [if_neg c2]
        by_cases c3 : a ≤ k ∧ k < a + n
        · rw [if_pos c3, if_pos (by omega)]
        · rw [if_neg c3, if_neg (by omega : ¬ (a ≤ k ∧ k < a + (n + 1)))]
          by_cases c4 : b ≤ k ∧ k < b + n
          · rw [if_pos c4, if_pos (by omega)]
          · rw [if_neg c4, if_neg (by omega)]
theorem Seg.swr {l : List α} {a b lo hi : Nat} : ∀ {n : Nat}, lo ≤ a → a + n ≤ b → b + n ≤ hi → hi ≤ l.length → Seg lo hi l (swr l a b n)
  | 0, _, _, _, _ => Seg.refl _ _ _
  | n + 1, h0, h1, h2, h3 => by
    have ih := Seg.swr (l := l) (a := a) (b := b) (lo := lo) (hi := hi) (n := n) h0 (by omega) (by omega) h3
    exact ih.trans (Seg.sw ⟨by omega, by omega⟩ ⟨by omega, by omega⟩ (by rw [swr_len]; exact h3))
def Rot (l l' : List α) (m i j : Nat) : Prop := ∀ k, l'[k]? = if m - i ≤ k ∧ k < m - i + j then l[k + i]? else if m - i + j ≤ k ∧ k < m + j then l[k - j]? else l[k]?
theorem Rot.last {l : List α} {m i : Nat} (hi : i ≤ m) (hb : m + i ≤ l.length) : Rot l (swr l (m - i) m i) m i i := by
  intro k
  rw [swr_get (by omega) hb]
  by_cases c1 : m - i ≤ k ∧ k < m - i + i
  · rw [if_pos c1, if_pos c1]; congr 1; omega
  · rw [if_neg c1, if_neg c1]
    by_cases c2 : m ≤ k ∧ k < m + i
    · rw [if_pos c2, if_pos (by omega)]; congr 1; omega
    · rw [if_neg c2, if_neg (by omega)]
theorem Rot.left {l l' : List α} {m i j : Nat} (hi : i ≤ m) (hij : j < i) (hb : m + j ≤ l.length) (h : Rot (swr l (m - i) m j) l' m (i - j) j) : Rot l l' m i j := by
  intro k
  have g := swr_get (l := l) (a := m - i) (b := m) (n := j) (by omega) hb
  rw [h k]
  by_cases c1 : m - (i - j) ≤ k ∧ k < m - (i - j) + j
  · rw [if_pos c1, g, if_neg (by omega), if_pos (by omega), if_neg (by omega), if_pos (by omega)]; congr 1; omega
  · rw [if_neg c1]
    by_cases c2 : m - (i - j) + j ≤ k ∧ k < m + j
    · rw [if_pos c2, g, if_neg (by omega), if_neg (by omega), if_neg (by omega), if_pos (by omega)]
    · rw [if_neg c2, g]
      by_cases c3 : m - i ≤ k ∧ k < m - i + j
      · rw [if_pos c3, if_pos c3]; congr 1; omega
      · rw [if_neg c3, if_neg c3, if_neg (by omega), if_neg (by omega)]
theorem Rot.right {l l' : List α} {m i j : Nat} (hi : i ≤ m) (hij : i < j) (hb : m + j ≤ l.length) (h : Rot (swr l (m - i) (m + j - i) i) l' m i (j - i)) : Rot l l' m i j := by
  intro k
  have g := swr_get (l := l) (a := m - i) (b := m + j - i) (n := i) (by omega) (by omega)
  rw [h k]
  by_cases c1 : m - i ≤ k ∧ k < m - i + (j - i)
  · rw [if_pos c1, g]
    by_cases c3 : k < m - i + j ∧ m ≤ k + i ∧ k + i < m + j - i
    · rw [if_neg (by omega), if_neg (by omega), if_pos (by omega)]
    · omega
  · rw [if_neg c1]
    by_cases c2 : m - i + (j - i) ≤ k ∧ k < m + (j - i)
    · rw [if_pos c2, g, if_pos (by omega)]
      by_cases c4 : k < m - i + j
      · rw [if_pos (by omega)]; congr 1; omega
      · omega
    · rw [if_neg c2, g]
      by_cases c3 : m - i ≤ k ∧ k < m - i + i
      · rw [if_pos c3]; omega
      · rw [if_neg c3]
        by_cases c4 : m + j - i ≤ k ∧ k < m + j - i + i
        · rw [if_pos c4, if_neg (by omega), if_pos (by omega)]; congr 1; omega
        · rw [if_neg c4, if_neg (by omega), if_neg (by omega)]
def Up (lt : α → α → Bool) (l : List α) (a b : Nat) : Prop := ∀ i j x y, a ≤ i → i < j → j < b → l[i]? = some x → l[j]? = some y → lt y x = false
theorem Up.le {lt : α → α → Bool} (hS : SWO lt) {l : List α} {a b : Nat} (h : Up lt l a b) : ∀ i j x y, a ≤ i → i ≤ j → j < b → l[i]? = some x → l[j]? = some y → lt y x = false := fun i j x y h1 h2 h3 hx hy => by
  rcases Nat.lt_or_eq_of_le h2 with h4 | h4
  · exact h i j x y h1 h4 h3 hx hy
  · subst h4
    rw [hx] at hy
    cases hy
    exact hS.irrefl x
theorem Up.sub {lt : α → α → Bool} {l : List α} {a b a' b' : Nat} (h : Up lt l a b) (h1 : a ≤ a') (h2 : b' ≤ b) : Up lt l a' b' := fun i j x y g1 g2 g3 => h i j x y (by omega) g2 (by omega)
theorem Up.of_out {lt : α → α → Bool} {l l' : List α} {a b a' b' : Nat} (h : Up lt l a b) (hs : Seg a' b' l l') (hd : b ≤ a' ∨ b' ≤ a) : Up lt l' a b := fun i j x y g1 g2 g3 hx hy => by
  rw [hs.out i (by omega)] at hx
  rw [hs.out j (by omega)] at hy
  exact h i j x y g1 g2 g3 hx hy
theorem Up.one (lt : α → α → Bool) (l : List α) {a b : Nat} (h : b ≤ a + 1) : Up lt l a b := fun _ _ _ _ h1 h2 h3 => by omega
theorem Up.join {lt : α → α → Bool} {l : List α} {a m b : Nat} (h1 : Up lt l a m) (h2 : Up lt l m b) (h : ∀ i j x y, a ≤ i → i < m → m ≤ j → j < b → l[i]? = some x → l[j]? = some y → lt y x = false) : Up lt l a b := fun i j x y g1 g2 g3 hx hy => by
  by_cases c1 : j < m
  · exact h1 i j x y g1 g2 c1 hx hy
  · by_cases c2 : i < m
    · exact h i j x y g1 c2 (by omega) g3 hx hy
    · exact h2 i j x y (by omega) g2 g3 hx hy
theorem halves {lt : α → α → Bool} {l l1 l2 : List α} {a m b : Nat} (hs1 : Seg a m l l1) (hs2 : Seg m b l1 l2) (ham : a ≤ m) (hmb : m ≤ b) (u1 : Up lt l1 a m) (u2 : Up lt l2 m b)
    (h : ∀ i j x y, a ≤ i → i < m → m ≤ j → j < b → l[i]? = some x → l[j]? = some y → lt y x = false) : Seg a b l l2 ∧ Up lt l2 a b := by
  refine ⟨(hs1.mono (Nat.le_refl _) hmb).trans (hs2.mono ham (Nat.le_refl _)), Up.join (u1.of_out hs2 (.inl (Nat.le_refl _))) u2 ?_⟩
  intro i j x y g1 g2 g3 g4 hx hy
  rw [hs2.out i (.inl g2)] at hx
  have p1 := hs1.all (fun x => ∀ j y, m ≤ j → j < b → l1[j]? = some y → lt y x = false) (fun k x k1 k2 hk j y h1 h2 hy => by
    rw [hs1.out j (.inr h1)] at hy
    exact h k j x y k1 k2 h1 h2 hk hy) i x g1 g2 hx
  exact hs2.all (fun y => lt y x = false) (fun k y k1 k2 hk => p1 k y k1 k2 hk) j y g3 g4 hy
structure Found (lt : α → α → Bool) (l : List α) (n lo hi s : Nat) : Prop where
  le : lo ≤ s ∧ s ≤ hi
  low : s = lo ∨ ∃ x y, l[s - 1]? = some x ∧ l[n - s]? = some y ∧ lt y x = false
  high : s = hi ∨ ∃ x y, l[s]? = some x ∧ l[n - 1 - s]? = some y ∧ lt y x = true
theorem swo_asymm {lt : α → α → Bool} (hS : SWO lt) {x y : α} (h : lt x y = true) : lt y x = false := by
  rcases hyx : lt y x with _ | _
  · rfl
  · have := hS.trans x y x h hyx
    rw [hS.irrefl] at this; cases this
theorem merge_cross {lt : α → α → Bool} (hS : SWO lt) {l l' : List α} {a m b mid s lo hi : Nat} (ham : a < m) (hmid : mid = (a + b) / 2) (hA : Up lt l a m) (hB : Up lt l m b)
    (hlo : lo = if mid < m then mid + m - b else a) (hhi : hi = if mid < m then mid else m) (hf : Found lt l (mid + m) lo hi s)
    (hr : ∀ k, l'[k]? = if s ≤ k ∧ k < mid then l[k + (m - s)]? else if mid ≤ k ∧ k < mid + m - s then l[k - (mid - s)]? else l[k]?) :
    (∀ i j x y, a ≤ i → i < mid → mid ≤ j → j < b → l'[i]? = some x → l'[j]? = some y → lt y x = false) ∧ Up lt l' a s ∧ Up lt l' s mid ∧ Up lt l' mid (mid + m - s) ∧ Up lt l' (mid + m - s) b := by
  obtain ⟨⟨f1, f2⟩, f3, f4⟩ := hf
  have hlo' : a ≤ lo ∧ mid + m ≤ lo + b := by subst hlo; split <;> omega
  have hhi' : hi ≤ m ∧ hi ≤ mid := by subst hhi; split <;> omega
  have hge : m ≤ mid + m - s := by omega
  have hle : mid + m - s ≤ b := by omega
  refine ⟨fun i j x y g1 g2 g3 g4 hx hy => ?_, fun i j x y g1 g2 g3 hx hy => ?_, fun i j x y g1 g2 g3 hx hy => ?_, fun i j x y g1 g2 g3 hx hy => ?_, fun i j x y g1 g2 g3 hx hy => ?_⟩
  · rw [hr] at hx hy
    rw [if_neg (by omega)] at hy
    by_cases c1 : i < s
    · rw [if_neg (by omega), if_neg (by omega)] at hx
      by_cases c2 : j < mid + m - s
      · rw [if_pos (by omega)] at hy
        exact hA i (j - (mid - s)) x y g1 (by omega) (by omega) hx hy
      · rw [if_neg (by omega)] at hy
        rcases f3 with f3 | ⟨u, w, hu, hw, hlt⟩
        · exfalso; subst hlo; split at hlo' <;> split at f3 <;> omega
        · have e1 := hA.le hS i (s - 1) x u g1 (by omega) (by omega) hx hu
          have e2 := hB.le hS (mid + m - s) j w y (by omega) (by omega) g4 hw hy
          exact hS.ntrans y w x e2 (hS.ntrans w u x hlt e1)
    · rw [if_pos (by omega)] at hx
      by_cases c2 : j < mid + m - s
      · rw [if_pos (by omega)] at hy
        rcases f4 with f4 | ⟨u, w, hu, hw, hlt⟩
        · exfalso; subst hhi; split at hhi' <;> split at f4 <;> omega
        · have e1 := hA.le hS s (j - (mid - s)) u y (by omega) (by omega) (by omega) hu hy
          have e2 := hB.le hS (i + (m - s)) (mid + m - 1 - s) x w (by omega) (by omega) (by omega) hx hw
          exact hS.ntrans y u x e1 (hS.ntrans u w x (swo_asymm hS hlt) e2)
      · rw [if_neg (by omega)] at hy
        exact hB (i + (m - s)) j x y (by omega) (by omega) g4 hx hy
  · rw [hr, if_neg (by omega), if_neg (by omega)] at hx hy
    exact hA i j x y g1 g2 (by omega) hx hy
  · rw [hr, if_pos (by omega)] at hx hy
    exact hB _ _ x y (by omega) (by omega) (by omega) hx hy
  · rw [hr, if_neg (by omega), if_pos (by omega)] at hx hy
    exact hA _ _ x y (by omega) (by omega) (by omega) hx hy
  · rw [hr, if_neg (by omega), if_neg (by omega)] at hx hy
    exact hB _ _ x y (by omega) g2 g3 hx hy
def MvU (l0 : List α) (a k : Nat) (l : List α) : Prop := ∀ p, l[p]? = if a ≤ p ∧ p < k then l0[p + 1]? else if p = k then l0[a]? else l0[p]?
def MvD (l0 : List α) (m k : Nat) (l : List α) : Prop := ∀ p, l[p]? = if k < p ∧ p ≤ m then l0[p - 1]? else if p = k then l0[m]? else l0[p]?
theorem MvU.start (l : List α) (a : Nat) : MvU l a a l := fun p => by
  rw [if_neg (by omega)]
  split
  · rename_i h; rw [h]
  · rfl
theorem MvD.start (l : List α) (m : Nat) : MvD l m m l := fun p => by
  rw [if_neg (by omega)]
  split
  · rename_i h; rw [h]
  · rfl
theorem MvU.step {l0 l : List α} {a k : Nat} (h : MvU l0 a k l) (ha : a ≤ k) (hk : k + 1 < l.length) : MvU l0 a (k + 1) (sw l k (k + 1)) := fun p => by
  rw [sw_get (by omega) hk]
  by_cases c1 : p = k + 1
  · subst c1
    rw [if_pos rfl, if_neg (by omega), if_pos rfl, h k, if_neg (by omega), if_pos rfl]
  · rw [if_neg c1]
    by_cases c2 : p = k
    · subst c2
      rw [if_pos rfl, h, if_neg (by omega), if_neg (by omega), if_pos (by omega)]
    · rw [if_neg c2, h, if_neg c2, if_neg c1]
      by_cases c3 : a ≤ p ∧ p < k
      · rw [if_pos c3, if_pos (by omega)]
      · rw [if_neg c3, if_neg (by omega)]
theorem MvD.step {l0 l : List α} {m k : Nat} (h : MvD l0 m (k + 1) l) (hm : k + 1 ≤ m) (hk : k + 1 < l.length) : MvD l0 m k (sw l (k + 1) k) := fun p => by
  rw [sw_get hk (by omega)]
  by_cases c1 : p = k
  · subst c1
    rw [if_pos rfl, if_neg (by omega), if_pos rfl, h, if_neg (by omega), if_pos rfl]
  · rw [if_neg c1]
    by_cases c2 : p = k + 1
    · subst c2
      rw [if_pos rfl, h, if_neg (by omega), if_neg (by omega), if_pos (by omega)]
      rfl
    · rw [if_neg c2, h, if_neg c1, if_neg c2]
      by_cases c3 : k + 1 < p ∧ p ≤ m
      · rw [if_pos c3, if_pos (by omega)]
      · rw [if_neg c3, if_neg (by omega)]
structure Srch (Q : Nat → Bool) (lo hi i j : Nat) : Prop where
  le : lo ≤ i ∧ i ≤ j ∧ j ≤ hi
  low : i = lo ∨ Q (i - 1) = false
  high : j = hi ∨ Q j = true
theorem Srch.start (Q : Nat → Bool) {lo hi : Nat} (h : lo ≤ hi) : Srch Q lo hi lo hi := ⟨⟨Nat.le_refl _, h, Nat.le_refl _⟩, .inl rfl, .inl rfl⟩
theorem Srch.up {Q : Nat → Bool} {lo hi i j k : Nat} (h : Srch Q lo hi i j) (h1 : i ≤ k) (h2 : k < j) (hq : Q k = false) : Srch Q lo hi (k + 1) j := by
  have := h.le
  exact ⟨⟨by omega, by omega, by omega⟩, .inr (by simpa using hq), h.high⟩
theorem Srch.down {Q : Nat → Bool} {lo hi i j k : Nat} (h : Srch Q lo hi i j) (h1 : i ≤ k) (h2 : k < j) (hq : Q k = true) : Srch Q lo hi i k := by
  have := h.le
  exact ⟨⟨by omega, by omega, by omega⟩, h.low, .inr hq⟩
theorem some_of {l : List α} {i : Nat} (h : i < l.length) : ∃ x, l[i]? = some x := ⟨_, List.getElem?_eq_getElem h⟩
theorem ins_up {lt : α → α → Bool} (hS : SWO lt) {l l' : List α} {a b i : Nat} {x : α} (hx : l[a]? = some x) (hi : a + 1 ≤ i) (hib : i ≤ b) (hU : Up lt l (a + 1) b)
    (h1 : i = a + 1 ∨ ∃ y, l[i - 1]? = some y ∧ lt y x = true) (h2 : i = b ∨ ∃ y, l[i]? = some y ∧ lt y x = false) (hm : MvU l a (i - 1) l') : Up lt l' a b := by
  intro p q u w g1 g2 g3 hu hw
  rw [hm] at hu hw
  have hlow : ∀ k y, a + 1 ≤ k → k < i → l[k]? = some y → lt x y = false := fun k y k1 k2 hk => by
    rcases h1 with h1 | ⟨z, hz, hzx⟩
    · omega
    · have e1 := hU.le hS k (i - 1) y z k1 (by omega) (by omega) hk hz
      exact hS.ntrans x z y (swo_asymm hS hzx) e1
  have hhigh : ∀ k y, i ≤ k → k < b → l[k]? = some y → lt y x = false := fun k y k1 k2 hk => by
    rcases h2 with h2 | ⟨z, hz, hzx⟩
    · omega
    · have e1 := hU.le hS i k z y (by omega) k1 k2 hz hk
      exact hS.ntrans y z x e1 hzx
  by_cases c1 : p < i - 1
  · rw [if_pos ⟨g1, c1⟩] at hu
    by_cases c2 : q < i - 1
    · rw [if_pos ⟨by omega, c2⟩] at hw
      exact hU (p + 1) (q + 1) u w (by omega) (by omega) (by omega) hu hw
    · rw [if_neg (by omega)] at hw
      by_cases c3 : q = i - 1
      · rw [if_pos c3, hx] at hw
        cases hw
        exact hlow (p + 1) u (by omega) (by omega) hu
      · rw [if_neg c3] at hw
        exact hU (p + 1) q u w (by omega) (by omega) g3 hu hw
  · rw [if_neg (by omega)] at hu
    rw [if_neg (by omega), if_neg (by omega)] at hw
    by_cases c3 : p = i - 1
    · rw [if_pos c3, hx] at hu
      cases hu
      exact hhigh q w (by omega) g3 hw
    · rw [if_neg c3] at hu
      exact hU p q u w (by omega) g2 g3 hu hw
theorem ins_down {lt : α → α → Bool} (hS : SWO lt) {l l' : List α} {a m i : Nat} {x : α} (hx : l[m]? = some x) (hi : a ≤ i) (him : i ≤ m) (hU : Up lt l a m)
    (h1 : i = a ∨ ∃ y, l[i - 1]? = some y ∧ lt x y = false) (h2 : i = m ∨ ∃ y, l[i]? = some y ∧ lt x y = true) (hm : MvD l m i l') : Up lt l' a (m + 1) := by
  intro p q u w g1 g2 g3 hu hw
  rw [hm] at hu hw
  have hlow : ∀ k y, a ≤ k → k < i → l[k]? = some y → lt x y = false := fun k y k1 k2 hk => by
    rcases h1 with h1 | ⟨z, hz, hzx⟩
    · omega
    · have e1 := hU.le hS k (i - 1) y z k1 (by omega) (by omega) hk hz
      exact hS.ntrans x z y hzx e1
  have hhigh : ∀ k y, i ≤ k → k < m → l[k]? = some y → lt y x = false := fun k y k1 k2 hk => by
    rcases h2 with h2 | ⟨z, hz, hzx⟩
    · omega
    · have e1 := hU.le hS i k z y (by omega) k1 k2 hz hk
      exact hS.ntrans y z x e1 (swo_asymm hS hzx)
  by_cases c1 : i < q
  · rw [if_pos ⟨c1, by omega⟩] at hw
    by_cases c2 : i < p
    · rw [if_pos ⟨c2, by omega⟩] at hu
      exact hU (p - 1) (q - 1) u w (by omega) (by omega) (by omega) hu hw
    · rw [if_neg (by omega)] at hu
      by_cases c3 : p = i
      · rw [if_pos c3, hx] at hu
        cases hu
        exact hhigh (q - 1) w (by omega) (by omega) hw
      · rw [if_neg c3] at hu
        exact hU p (q - 1) u w (by omega) (by omega) (by omega) hu hw
  · rw [if_neg (by omega)] at hw
    rw [if_neg (by omega), if_neg (by omega)] at hu
    by_cases c3 : q = i
    · rw [if_pos c3, hx] at hw
      cases hw
      exact hlow p u g1 (by omega) hu
    · rw [if_neg c3] at hw
      exact hU p q u w g1 g2 (by omega) hu hw
structure Ins (lt : α → α → Bool) (l : List α) (a j n : Nat) : Prop where
  below : Up lt l a j
  above : Up lt l j n
  cross : ∀ p q x y, a ≤ p → p < j → j < q → q < n → l[p]? = some x → l[q]? = some y → lt y x = false
theorem Ins.start {lt : α → α → Bool} {l : List α} {a i : Nat} (h : Up lt l a i) : Ins lt l a i (i + 1) := ⟨h, Up.one _ _ (by omega), fun _ _ _ _ _ _ _ _ _ => by omega⟩
theorem Ins.step {lt : α → α → Bool} (hS : SWO lt) {l : List α} {a j n : Nat} {x y : α} (h : Ins lt l a (j + 1) n) (haj : a ≤ j) (hjn : j + 1 < n) (hn : n ≤ l.length) (hx : l[j]? = some x) (hy : l[j + 1]? = some y) (hlt : lt y x = true) : Ins lt (sw l (j + 1) j) a j n := by
  have g := sw_get (l := l) (p := j + 1) (q := j) (by omega) (by omega)
  have hyx := swo_asymm hS hlt
  refine ⟨fun p q u w g1 g2 g3 hu hw => ?_, fun p q u w g1 g2 g3 hu hw => ?_, fun p q u w g1 g2 g3 g4 hu hw => ?_⟩
  · rw [g, if_neg (by omega), if_neg (by omega)] at hu hw
    exact h.below p q u w g1 g2 (by omega) hu hw
  · rw [g] at hu hw
    rw [if_neg (by omega)] at hw
    by_cases c1 : p = j
    · rw [if_pos c1, hy] at hu
      cases hu
      by_cases c2 : q = j + 1
      · rw [if_pos c2, hx] at hw
        cases hw
        exact hyx
      · rw [if_neg c2] at hw
        exact h.above (j + 1) q _ w (by omega) (by omega) g3 hy hw
    · rw [if_neg c1] at hu
      rw [if_neg (by omega)] at hw
      by_cases c2 : p = j + 1
      · rw [if_pos c2, hx] at hu
        cases hu
        exact h.cross j q _ w haj (by omega) (by omega) g3 hx hw
      · rw [if_neg c2] at hu
        exact h.above p q u w (by omega) g2 g3 hu hw
  · rw [g, if_neg (by omega), if_neg (by omega)] at hu
    rw [g, if_neg (by omega)] at hw
    by_cases c2 : q = j + 1
    · rw [if_pos c2, hx] at hw
      cases hw
      exact h.below p j u _ g1 (by omega) (by omega) hu hx
    · rw [if_neg c2] at hw
      exact h.cross p q u w g1 (by omega) (by omega) g4 hu hw
theorem Ins.done_low {lt : α → α → Bool} {l : List α} {a n : Nat} (h : Ins lt l a a n) : Up lt l a n := h.above
theorem Ins.done {lt : α → α → Bool} (hS : SWO lt) {l : List α} {a j n : Nat} {x y : α} (h : Ins lt l a (j + 1) n) (hx : l[j]? = some x) (hy : l[j + 1]? = some y) (hlt : lt y x = false) : Up lt l a n := by
  refine Up.join h.below h.above fun p q u w g1 g2 g3 g4 hu hw => ?_
  have e1 := h.below.le hS p j u x g1 (by omega) (by omega) hu hx
  have e2 := h.above.le hS (j + 1) q y w (by omega) g3 g4 hy hw
  exact hS.ntrans w y u e2 (hS.ntrans y x u hlt e1)
def Done (lt : α → α → Bool) (B : Nat) (l : List α) (q : Nat) : Prop := ∀ p, p < q → Up lt l (p * B) (p * B + B)
def Rest (lt : α → α → Bool) (B : Nat) (l : List α) (n p0 : Nat) : Prop := ∀ p, p0 ≤ p → Up lt l (p * B) (min (p * B + B) n)
theorem blk_le {p q : Nat} (B : Nat) (h : p < q) : p * B + B ≤ q * B := by
  have := Nat.mul_le_mul_right B h
  rwa [Nat.succ_mul] at this
theorem Done.zero (lt : α → α → Bool) (B : Nat) (l : List α) : Done lt B l 0 := fun p hp => by omega
theorem Done.next {lt : α → α → Bool} {B q n : Nat} {l l' : List α} (h : Done lt B l q) (hs : Seg (q * B) n l l') (hu : Up lt l' (q * B) (q * B + B)) : Done lt B l' (q + 1) := fun p hp => by
  rcases Nat.lt_or_eq_of_le (Nat.le_of_lt_succ hp) with h1 | h1
  · exact (h p h1).of_out hs (.inl (blk_le B h1))
  · subst h1; exact hu
theorem Done.last {lt : α → α → Bool} {B q n : Nat} {l l' : List α} (h : Done lt B l q) (hs : Seg (q * B) n l l') (hu : Up lt l' (q * B) n) (h1 : q * B ≤ n) (h2 : n < q * B + B) : Rest lt B l' n 0 := fun p _ => by
  rcases Nat.lt_trichotomy p q with h3 | h3 | h3
  · have := blk_le B h3
    rw [Nat.min_eq_left (by omega)]
    exact (h p h3).of_out hs (.inl (by omega))
  · subst h3
    rw [Nat.min_eq_right (by omega)]
    exact hu
  · have := blk_le B h3
    exact Up.one _ _ (by omega)
theorem Rest.two {lt : α → α → Bool} {B q n : Nat} {l : List α} (h : Rest lt B l n (2 * q)) : Up lt l (q * (2 * B)) (min (q * (2 * B) + B) n) ∧ Up lt l (q * (2 * B) + B) (min (q * (2 * B) + B + B) n) := by
  have e1 : 2 * q * B = q * (2 * B) := by rw [Nat.mul_comm 2 q, Nat.mul_assoc]
  have e2 : (2 * q + 1) * B = q * (2 * B) + B := by rw [Nat.succ_mul, e1]
  have h1 := h (2 * q) (Nat.le_refl _)
  have h2 := h (2 * q + 1) (by omega)
  rw [e1] at h1
  rw [e2] at h2
  exact ⟨h1, h2⟩
theorem Rest.next {lt : α → α → Bool} {B q n lo : Nat} {l l' : List α} (h : Rest lt B l n (2 * q)) (hs : Seg lo (q * (2 * B) + 2 * B) l l') : Rest lt B l' n (2 * (q + 1)) := fun p hp => by
  have e1 : 2 * (q + 1) * B = q * (2 * B) + 2 * B := by rw [Nat.mul_comm 2 (q + 1), Nat.mul_assoc, Nat.succ_mul]
  have := Nat.mul_le_mul_right B hp
  rw [e1] at this
  exact (h p (by omega)).of_out hs (.inr this)
theorem Rest.all {lt : α → α → Bool} {B n : Nat} {l : List α} (h : Rest lt B l n 0) (hB : n ≤ B) : Up lt l 0 n := by
  have := h 0 (Nat.le_refl _)
  rwa [Nat.zero_mul, Nat.zero_add, Nat.min_eq_right hB] at this
end Go.Mrg
end
