/- A row of one's own: what append does to it, from any source. No conditions. -/
import Derived.Test.YtmjpcaiehfimgaaMem
namespace Go.Ev
open Go.RowKit

/-- The slice v of n elements ('sz' cells each, of type t) holds the cells xs, and its array (S: its block, or nothing) is one's own from its head. -/
def Own (m : World) (S : List Nat) (t : TypeId) (sz : Nat) (v : Value) (n : Nat) (xs : List Value) : Prop :=
  xs.length = n * sz ∧ ((∃ A, v = .slice A 0 0 ∧ n = 0 ∧ S = []) ∨
    ∃ g cap cur, v = .slice (some ⟨g, 0, none⟩) n cap ∧ Blk m g t cur ∧ n ≤ cap ∧ cap ≤ maxLen ∧ cur.length = cap * sz ∧ cur.take (n * sz) = xs ∧ S = [g])
/-- Blocks of the second list are the first's, or new. -/
def FpNew (m : World) (S S' : List Nat) : Prop := ∀ k ∈ S', k ∈ S ∨ m.heap.size ≤ k

section
variable {m m' m'' : World} {S S' S'' M M' : List Nat} {t : TypeId} {sz : Nat} {v : Value} {n : Nat} {xs : List Value}
theorem FpNew.refl (m : World) (S : List Nat) : FpNew m S S := fun _ h => .inl h
theorem FpNew.nil (m : World) (S : List Nat) : FpNew m S [] := fun _ h => by cases h
theorem FpNew.trans (h : FpNew m S S') (h' : FpNew m' S' S'') (hsz : m.heap.size ≤ m'.heap.size) : FpNew m S S'' := fun k hk => by
  rcases h' k hk with h1 | h1
  · exact h k h1
  · exact .inr (Nat.le_trans hsz h1)
theorem FpNew.trans' (h : FpNew m' S S') (hE : Ext m M m') : FpNew m S S' := fun k hk => by
  rcases h k hk with h1 | h1
  · exact .inl h1
  · exact .inr (Nat.le_trans hE.size h1)
theorem FpNew.cons (h : FpNew m S S') (b : Nat) (hb : b ∈ S ∨ m.heap.size ≤ b) : FpNew m S (b :: S') := fun k hk => by
  rcases List.mem_cons.1 hk with rfl | h1
  · exact hb
  · exact h k h1
theorem FpNew.append (h : FpNew m S S') (h' : FpNew m S S'') : FpNew m S (S' ++ S'') := fun k hk => by
  rcases List.mem_append.1 hk with h1 | h1
  · exact h k h1
  · exact h' k h1
theorem FpNew.more (h : FpNew m S S') (hS : ∀ k ∈ S, k ∈ S'') : FpNew m S'' S' := fun k hk => by
  rcases h k hk with h1 | h1
  · exact .inl (hS k h1)
  · exact .inr h1
theorem FpNew.far (h : FpNew m S S') {k : Nat} (hk : k ∉ S) (hlt : k < m.heap.size) : k ∉ S' := fun hh => by
  rcases h k hh with h1 | h1
  · exact hk h1
  · omega
theorem Own.empty (m : World) (t : TypeId) (sz : Nat) (A : Option Addr) : Own m [] t sz (.slice A 0 0) 0 [] := ⟨by simp, .inl ⟨A, rfl, rfl, rfl⟩⟩
theorem Own.lt (h : Own m S t sz v n xs) : ∀ k ∈ S, k < m.heap.size := by
  rcases h.2 with ⟨_, _, _, rfl⟩ | ⟨g, _, _, _, hB, _, _, _, _, rfl⟩
  · simp
  · simpa using hB.lt
theorem Own.ext (h : Own m S t sz v n xs) (hE : Ext m M m') (hM : ∀ k ∈ S, k ∉ M) : Own m' S t sz v n xs := by
  refine ⟨h.1, ?_⟩
  rcases h.2 with h1 | ⟨g, cap, cur, hv, hB, h1, h2, h3, h4, rfl⟩
  · exact .inl h1
  · exact .inr ⟨g, cap, cur, hv, hB.ext hE (hM g (by simp)), h1, h2, h3, h4, rfl⟩
theorem Own.sl (h : Own m S t sz v n xs) (hM : ∀ k ∈ S, k ∉ M) : Sl m M sz v xs := by
  obtain ⟨hl, h1 | ⟨g, cap, cur, hv, hB, h1, h2, h3, h4, rfl⟩⟩ := h
  · obtain ⟨A, rfl, rfl, rfl⟩ := h1
    have : xs = [] := List.eq_nil_of_length_eq_zero (by simpa using hl)
    subst this
    exact ⟨A, 0, 0, rfl, Nat.le_refl _, Nat.zero_le _, by simp, fun _ => rfl, fun h => absurd h (by omega)⟩
  · subst hv
    subst h4
    exact Sl.of_blk hB (hM g (by simp)) (by rw [h3]; exact Nat.mul_le_mul_right _ h1) h1 h2
theorem Own.one (h : Own m S t sz v n xs) : v.oneCell' = true := by
  rcases h.2 with ⟨_, rfl, _⟩ | ⟨_, _, _, rfl, _⟩ <;> rfl
/-- The length that the slice shows. -/
theorem Own.shape (h : Own m S t sz v n xs) : ∃ A c, v = .slice A n c ∧ n ≤ c := by
  rcases h.2 with ⟨A, rfl, rfl, _⟩ | ⟨g, cap, _, rfl, _, h1, _⟩
  · exact ⟨A, 0, rfl, Nat.le_refl _⟩
  · exact ⟨_, cap, rfl, h1⟩
theorem Own.at_ (h : Own m S t sz v n xs) (hn : 0 < n) : ∃ g cap cur, v = .slice (some ⟨g, 0, none⟩) n cap ∧ Blk m g t cur ∧ n ≤ cap ∧ cap ≤ maxLen ∧ cur.length = cap * sz ∧ cur.take (n * sz) = xs ∧ S = [g] := by
  rcases h.2 with ⟨_, _, rfl, _⟩ | h
  · omega
  · exact h
/-- A new block, laid out whole. -/
theorem Own.new {b : Nat} {cs : List Value} (h : Blk m b t cs) (hl : cs.length = n * sz) (hn : n ≤ maxLen) : Own m [b] t sz (.slice (some ⟨b, 0, none⟩) n n) n cs :=
  ⟨hl, .inr ⟨b, n, cs, rfl, h, Nat.le_refl _, hn, hl, by rw [← hl]; exact List.take_length, rfl⟩⟩
end

section
variable {P : Program} {T : Ty} {m w : World} {S : List Nat} {te t : TypeId} {rt r : Row} {v x : Value} {n k : Nat} {xs news : List Value}
/-- The source of an append: k elements, the cells news. -/
def Src (P : Program) (sz : Nat) (m : World) (x : Value) (k : Nat) (news : List Value) : Prop :=
  (∀ w, (Builtin.lenOf x).run P w = .ok k w) ∧ ∀ w, Sim m w → (Builtin.firstCells sz k x).run P w = .ok news.toArray w
theorem Src.of_sl {M : List Nat} {sz : Nat} {A : Option Addr} {c : Nat} (h : Sl m M sz (.slice A k c) news) : Src P sz m (.slice A k c) k news := by
  obtain ⟨A', n', c', hv, _, _, hl, hA, hr⟩ := h
  injection hv with h1 h2 h3
  subst h1; subst h2; subst h3
  refine ⟨fun w => by simp [Builtin.lenOf], fun w hs => ?_⟩
  cases A with
  | none => 
    have h0 := hA rfl
    rcases Nat.eq_zero_or_pos k with rfl | hk
    · have : news = [] := List.eq_nil_of_length_eq_zero (by simpa using hl)
      subst this
      simp [Builtin.firstCells]
    · obtain ⟨ad, had, _⟩ := hr hk; cases had
  | some ad =>
    refine run_firstCells_some w sz k ad k c news hl (fun j u hu => ?_)
    have h0 : j < news.length := (List.getElem?_eq_some_iff.1 hu).1
    have hk : 0 < k := by
      rcases Nat.eq_zero_or_pos k with rfl | hk
      · rw [hl] at h0; simp at h0
      · exact hk
    obtain ⟨ad', had, _, hc⟩ := hr hk
    injection had with had
    subst had
    exact (hs.cell _).trans (hc j u hu)
def u8s (l : List UInt8) : List Value := l.map fun b => .int .u8 b.toNat
theorem Src.of_string (s : ByteArray) : Src P 1 m (.string s) s.size (u8s s.data.toList) := by
  refine ⟨fun w => by simp [Builtin.lenOf], fun w _ => ?_⟩
  simp only [Builtin.firstCells, Sem.run_pure]
  congr 1
  apply Array.ext'
  have h : (s.extract 0 s.size) = s := by simp
  rw [h]
  simp [u8s]
theorem size_zero (z : Array Value) (n : Nat) : (Builtin.zeroCells z n).toList.length = n * z.size := by simp [Builtin.zeroCells]
/-- append: the new row, and what has turned. 'zs': the second argument's type is no int ('append(s, make(..)...)' is another thing). -/
theorem append_run (hT : T.Ok P) (hrt : T.row t = some rt) (hk : rt.k = .sli te) (hr : T.row te = some r) (hcz : r.zero.cells.size = r.size) {tx : TypeId} (htx : P.underlying tx = some (.slice te) ∨ P.underlying tx = some .string)
    (hown : Own m S te r.size v n xs) (hsrc : Src P r.size m x k news) (hl : news.length = k * r.size) (h1 : ∀ u ∈ news, u.oneCell' = true) (hmax : n + k ≤ maxLen) (hbytes : (n + k) * r.bytes ≤ 140737488355328) (hs : Sim m w) (ty : TypeId) :
    ∃ v' w' S', (Builtin.append_ #[t, tx] ty #[v, x]).run P w = .ok v' w' ∧ Own w' S' te r.size v' (n + k) (xs ++ news) ∧ Ext m S w' ∧ FpNew m S S' := by
  have hu := (hT.row hrt).k
  rw [hk] at hu
  obtain ⟨i, hi, hz0, hz1, hz2⟩ := (hT.row hr).parts
  have h63 : ¬ ((n + k : Nat) : Int) > IntKind.i64.max := by
    have : IntKind.i64.max = 9223372036854775807 := by decide
    rw [this]; simp only [maxLen] at hmax; omega
  have hlen : (xs ++ news).length = (n + k) * r.size := by rw [List.length_append, hown.1, hl, Nat.add_mul]
  -- the growing way, from whatever there was
  have grow : ∀ (A : Option Addr) (cap : Nat), v = .slice A n cap → cap < n + k → (∀ W, Sim m W → (Builtin.firstCells r.size n v).run P W = .ok xs.toArray W) →
      ∃ v' w' S', (Builtin.append_ #[t, tx] ty #[v, x]).run P w = .ok v' w' ∧ Own w' S' te r.size v' (n + k) (xs ++ news) ∧ Ext m S w' ∧ FpNew m S S' := by
    intro A cap hv hlt hold
    have h48 : ¬ (281474976710656 < Builtin.nextslicecap (n + k) cap * i.bytes) := by
      rw [hz2]
      have := growslice_fits hlt hbytes
      omega
    have hge := grownCap_ge w (n + k) cap te
    have hcm := grownCap_le_maxLen w (n + k) cap te hmax
    have hb : Blk (w.drew.alloc (.cells (xs ++ news ++ (Builtin.zeroCells r.zero.cells (grownCap w (n + k) cap te - (n + k))).toList).toArray te)) w.heap.size te (xs ++ news ++ (Builtin.zeroCells r.zero.cells (grownCap w (n + k) cap te - (n + k))).toList) := heap_alloc_new w.drew _
    refine ⟨.slice (some ⟨w.heap.size, 0, none⟩) (n + k) (grownCap w (n + k) cap te), w.drew.alloc (.cells (xs ++ news ++ (Builtin.zeroCells r.zero.cells (grownCap w (n + k) cap te - (n + k))).toList).toArray te), [w.heap.size], ?_, ?_, ?_, ?_⟩
    · have hf1 := hold w.drew (hs.drew)
      have hf2 := hsrc.2 w.drew (hs.drew)
      rw [hv] at hf1
      have hn' : ¬ (n + k ≤ cap) := by omega
      have h63' : ¬ (9223372036854775807 < ((n : Int) + (k : Int))) := by simp only [maxLen] at hmax; omega
      rcases htx with htx | htx <;> simp [Builtin.append_, run_underlying hu, run_underlying htx, sizeOf, typeInfo, zeroValue, hi, hz0, hz1, hv, hsrc.1, hn', h48, h63', hf1, hf2, newRow, Question.forced, grownCap] <;> (congr 2; apply Array.ext'; simp)
    · exact ⟨hlen, .inr ⟨_, _, _, rfl, hb, hge, hcm, by
        simp only [List.length_append, hown.1, hl, size_zero, hcz, ← Nat.add_mul]; congr 1; omega, by rw [← hlen]; exact List.take_left, rfl⟩⟩
    · refine ⟨hs.os, hs.tape, hs.output, by simp [hs.size], fun q hq _ => ?_, Nat.le_succ_of_le hs.drawn⟩
      rw [Below.heap_alloc w.drew _ q (by show q < w.heap.size; rw [hs.size]; exact hq)]
      show w.heap[q]? = _
      rw [hs.heap]
    · intro q hq
      have : q = w.heap.size := by simpa using hq
      subst this
      exact .inr (by rw [hs.size]; exact Nat.le_refl _)
  rcases hown.2 with ⟨A, rfl, rfl, rfl⟩ | ⟨g, cap, cur, rfl, hB, hnc, hcm, hcl, htake, rfl⟩
  · have hx : xs = [] := List.eq_nil_of_length_eq_zero (by simpa using hown.1)
    subst hx
    rcases Nat.eq_zero_or_pos k with rfl | hk0
    · have hn : news = [] := List.eq_nil_of_length_eq_zero (by simpa using hl)
      subst hn
      refine ⟨.slice A 0 0, w, [], ?_, Own.empty w te r.size A, ⟨hs.os, hs.tape, hs.output, by rw [hs.size]; exact Nat.le_refl _, fun q _ _ => by rw [hs.heap], hs.drawn⟩, FpNew.nil _ _⟩
      have hf2 := hsrc.2 w hs
      rcases htx with htx | htx <;> cases A <;> simp [Builtin.append_, run_underlying hu, run_underlying htx, sizeOf, typeInfo, hi, hz1, hsrc.1, hf2, storeCells]
    · refine grow A 0 rfl (by omega) (fun W _ => ?_)
      cases A <;> simp [Builtin.firstCells, loadCells, loadCellsFrom]
  · by_cases hroom : n + k ≤ cap
    · have hw : w.heap[g]? = some (.cells cur.toArray te (0, 0)) := by rw [hs.heap]; exact hB
      have hfit : 0 + n * r.size + news.length ≤ cur.toArray.size := by
        rw [hl, Nat.zero_add, ← Nat.add_mul]; simp only [List.size_toArray, hcl]; exact Nat.mul_le_mul_right _ hroom
      have h3 := run_storeCells_at P g (n * r.size) te news 0 cur.toArray w hw (by simpa using hfit) h1
      simp only [Nat.add_zero] at h3
      have hB' := (setRow_chg hw (cur.take (n * r.size) ++ news ++ cur.drop (n * r.size + news.length))).blk
      refine ⟨.slice (some ⟨g, 0, none⟩) (n + k) cap, _, [g], ?_, ⟨hlen, .inr ⟨g, cap, _, rfl, hB', hroom, hcm, ?_, ?_, rfl⟩⟩, ?_, FpNew.refl _ _⟩
      · have hf2 := hsrc.2 w hs
        have h3' : (storeCells ⟨g, n * r.size, none⟩ news).run P w = .ok () (w.setRow g (cur.take (n * r.size) ++ news ++ cur.drop (n * r.size + news.length)).toArray) := h3
        rcases htx with htx | htx <;> simp [Builtin.append_, run_underlying hu, run_underlying htx, sizeOf, typeInfo, hi, hz1, hsrc.1, hf2, hroom, add_block, h3']
      · have h5 : n * r.size + news.length ≤ cur.length := by simpa using hfit
        simp only [List.length_append, List.length_take, List.length_drop, ← hcl]
        omega
      · rw [htake, ← hlen]; exact List.take_left
      · have h6 := (setRow_chg hw (cur.take (n * r.size) ++ news ++ cur.drop (n * r.size + news.length))).ext
        exact ⟨h6.os.trans hs.os, h6.tape.trans hs.tape, h6.output.trans hs.output, by rw [← hs.size]; exact h6.size, fun q hq hq' => by rw [h6.far q (by rw [hs.size]; exact hq) hq', hs.heap], Nat.le_trans hs.drawn h6.drawn⟩
    · refine grow _ cap rfl (by omega) (fun W hW => ?_)
      refine run_firstCells_some W r.size n ⟨g, 0, none⟩ n cap xs hown.1 (fun j u hu => ?_)
      rw [hW.cell, add_block]
      refine hB.cell _ ?_
      rw [← htake, List.getElem?_take] at hu
      split at hu
      · simpa using hu
      · cases hu
end

section
variable {P : Program} {T : Ty} {ops : Array Oper} {Q : Exit → Act → World → Prop} {rest : List Oper} {n : Nat} {e e' : Env} {D : Fr} {m : World}
  {d : Option Tmp} {x y : Operand} {t tx ty ty1 : TypeId} {pos pos1 : String} {aft aft1 : Array Edge} {g : Option (Nat × Bool)} {v : Value} {rt r : Row}
/-- The element's row of a slice type, fit for append: its number and row. -/
def Ty.elem (T : Ty) (t : TypeId) : Option (TypeId × Row) := match T.row t with
  | some rt => match rt.k with
    | .sli te => match T.row te with
      | some r => match Nat.beq r.zero.cells.size r.size with
        | true => match Nat.blt 0 r.size with
          | true => match Nat.ble r.size 1000 with
            | true => some (te, r)
            | false => none
          | false => none
        | false => none
      | none => none
    | _ => none
  | none => none
theorem Ty.elem_spec {T : Ty} {t te : TypeId} {r : Row} (h : T.elem t = some (te, r)) : ∃ rt, T.row t = some rt ∧ rt.k = .sli te ∧ T.row te = some r ∧ r.zero.cells.size = r.size ∧ 0 < r.size ∧ r.size ≤ 1000 := by
  unfold Ty.elem at h
  split at h
  · rename_i rt hrt
    split at h
    · rename_i te' hk
      split at h
      · rename_i r' hr
        split at h
        · rename_i h1
          split at h
          · rename_i h2
            split at h
            · rename_i h3
              simp only [Option.some.injEq, Prod.mk.injEq] at h
              obtain ⟨rfl, rfl⟩ := h
              exact ⟨rt, hrt, hk, hr, by simpa using h1, by simpa using h2, Nat.le_of_ble_eq_true h3⟩
            · cases h
          · cases h
        · cases h
      · cases h
    · cases h
  · cases h
def Ty.srcOk (T : Ty) (tx te : TypeId) : Bool := match T.row tx with
  | some r => match r.k with
    | .sli te' => Nat.beq te' te
    | .str => true
    | _ => false
  | none => false
theorem Ty.srcOk_spec {T : Ty} (hT : T.Ok P) {tx te : TypeId} (h : T.srcOk tx te = true) : P.underlying tx = some (.slice te) ∨ P.underlying tx = some .string := by
  unfold Ty.srcOk at h
  split at h
  · rename_i r hr
    have h1 := (hT.row hr).k
    split at h
    · rename_i te' hk
      rw [hk] at h1
      have : te' = te := by simpa using h
      subst this
      exact .inl h1
    · rename_i hk; rw [hk] at h1; exact .inr h1
    · cases h
  · cases h
/-- 'append(s, ys...)' onto a row of one's own, from any source. -/
theorem RL.append (hT : T.Ok P) {te : TypeId} {S : List Nat} {s sx : Value} {nn k : Nat} {xs : List Value} (hown : Own m S te r.size s nn xs) (news : List Value) (hsrc : Src P r.size m sx k news)
    (he : T.elem t = some (te, r)) (htx : T.srcOk tx te = true)
    (hg : gd ops e ⟨d, .call ⟨.builtin .append, #[x, y], #[t, tx]⟩, ty, pos, aft, g⟩ = some true) (hx : e.ev x = some s) (hy : e.ev y = some sx) (hl : news.length = k * r.size)
    (h1 : ∀ u ∈ news, u.oneCell' = true) (hmax : nn + k ≤ maxLen) (hbytes : (nn + k) * r.bytes ≤ 140737488355328)
    (h : ∀ v' m' S', Own m' S' te r.size v' (nn + k) (xs ++ news) → Ext m S m' → FpNew m S S' → ∃ e', putE n d v' e = some e' ∧ RL P ops Q rest n e' D m') :
    RL P ops Q (⟨d, .call ⟨.builtin .append, #[x, y], #[t, tx]⟩, ty, pos, aft, g⟩ :: rest) n e D m := by
  obtain ⟨rt, hrt, hk, hr, hcz, hsz, _⟩ := Ty.elem_spec he
  refine RL.valueX (R := fun v' m' => ∃ S', Own m' S' te r.size v' (nn + k) (xs ++ news) ∧ Ext m S m' ∧ FpNew m S S') hg (fun a w hf hs => ?_) (fun v' m' ⟨S', h2, h3, h4⟩ => h v' m' S' h2 h3 h4)
  obtain ⟨v', w', S', h2, h3, h4, h5⟩ := append_run hT hrt hk hr hcz (Ty.srcOk_spec hT htx) hown hsrc hl h1 hmax hbytes hs ty
  refine ⟨v', w', w', ?_, Sim.refl _, S', h3, h4, h5⟩
  simp [execOp, resolve, invoke, builtin, hf.ev hx, hf.ev hy, h2]
theorem fill_parts (sz : Nat) : ∀ (us : List Value) (k : Nat) (pre suf : List Value), (∀ u ∈ us, u.cells.size = sz) → pre.length = k * sz → suf.length = us.length * sz →
    Instr.fill (fun i => some (i * sz, sz)) (pre ++ suf).toArray ((us.zipIdx k).map fun p => (p.2, p.1)) = some (pre ++ us.flatMap (·.cells.toList)).toArray
  | [], k, pre, suf, _, _, hs => by
    have : suf = [] := List.eq_nil_of_length_eq_zero (by simpa using hs)
    subst this
    simp [Instr.fill]
  | u :: us, k, pre, suf, hu, hp, hs => by
    have hfold : ∀ (l : List Value) (j : Nat) (pre' : List Value) (suf : List Value), l.length ≤ suf.length → pre'.length = k * sz + j →
        (l.zipIdx j).foldl (fun (cs : Array Value) (c : Value × Nat) => cs.setIfInBounds (k * sz + c.2) c.1) (pre' ++ suf).toArray = (pre' ++ l ++ suf.drop l.length).toArray := by
      intro l
      induction l with
      | nil => intro j pre' suf _ _; simp
      | cons c l ih =>
        intro j pre' suf hs hp
        match suf, hs with
        | [], hs => simp at hs
        | s0 :: suf, hs =>
          simp only [List.zipIdx_cons, List.foldl_cons]
          have h1 : ((pre' ++ s0 :: suf).toArray.setIfInBounds (k * sz + j) c) = ((pre' ++ [c]) ++ suf).toArray := by
            rw [List.setIfInBounds_toArray]; congr 1; rw [← hp]; simp
          have h2 := ih (j + 1) (pre' ++ [c]) suf (by simpa using hs) (by simp [hp, Nat.add_assoc])
          rw [h1, h2]
          simp
    have hsz : u.cells.size = sz := hu u (by simp)
    have hs' : suf.length = us.length * sz + sz := by rw [hs, List.length_cons, Nat.succ_mul]
    simp only [List.zipIdx_cons, List.map_cons, Instr.fill]
    rw [if_neg (by simp [hsz, hp, hs'])]
    have h4 : ∀ z : Array Value, (u.cells.zipIdx.foldl (fun cs x => cs.setIfInBounds (k * sz + x.2) x.1) z) = (u.cells.toList.zipIdx 0).foldl (fun (cs : Array Value) (c : Value × Nat) => cs.setIfInBounds (k * sz + c.2) c.1) z := by
      intro z
      rw [← Array.foldl_toList]
      simp
    have h5 := hfold u.cells.toList 0 pre suf (by simp [hsz, hs']) (by simpa using hp)
    rw [h4, h5]
    have h6 := fill_parts sz us (k + 1) (pre ++ u.cells.toList) (suf.drop u.cells.toList.length) (fun x hx => hu x (by simp [hx])) (by simp [hp, hsz, Nat.succ_mul]) (by simp [hsz, hs'])
    rw [h6]
    simp
theorem run_buildSliceN (hT : T.Ok P) {te : TypeId} (he : T.elem t = some (te, r)) (us : List Value) (hne : 0 < us.length) (hsm : us.length ≤ 16000) (hu : ∀ u ∈ us, u.cells.size = r.size) (w : World) :
    (Instr.buildSlice t us.length ((us.zipIdx 0).map fun p => (p.2, p.1)).toArray).run P w = .ok (.slice (some ⟨w.heap.size, 0, none⟩) us.length us.length) (w.alloc (.cells (us.flatMap (·.cells.toList)).toArray te)) := by
  obtain ⟨rt, hrt, hk, hr, hcz, hsz, hsz2⟩ := Ty.elem_spec he
  have hu' := (hT.row hrt).k
  rw [hk] at hu'
  obtain ⟨i, hi, hz0, hz1, _⟩ := (hT.row hr).parts
  have h0 : 0 < us.length * r.size := Nat.mul_pos hne hsz
  have h9 : us.length * r.size ≤ 16000 * 1000 := Nat.mul_le_mul hsm hsz2
  refine run_buildSlice w t te us.length _ _ i r.zero hu' hi hz0 (by rw [hz1]; omega) (by rw [hz1]; omega) ?_
  rw [hz1]
  have := fill_parts r.size us 0 [] ((Array.range (us.length * r.size)).map (r.zero.cells[· % r.zero.cells.size]!)).toList hu (by simp) (by simp)
  simp only [List.nil_append, Array.toArray_toList] at this
  exact this
def opsParts : Nat → List Operand → List (Nat × Operand)
  | _, [] => []
  | k, x :: r => (k, x) :: opsParts (k + 1) r
theorem opsParts_map (f : Operand → Value) : ∀ (l : List Operand) (k : Nat), (opsParts k l).map (fun p => (p.1, f p.2)) = ((l.map f).zipIdx k).map fun p => (p.2, p.1)
  | [], _ => rfl
  | x :: r, k => by simp [opsParts, opsParts_map f r (k + 1)]
/-- A slice literal. -/
theorem RL.buildSlice (hT : T.Ok P) {te : TypeId} {k : Nat} {parts : Array (Nat × Operand)} (xs : List Operand) {us : List Value} (cs : List Value) (he : T.elem t = some (te, r)) (hparts : parts = (opsParts 0 xs).toArray) (hk : xs.length = k) (hne : Nat.blt 0 k = true) (hsm : Nat.ble k 16000 = true)
    (hus : e.evs xs = some us) (hu : ∀ u ∈ us, u.cells.size = r.size) (hcs : us.flatMap (·.cells.toList) = cs) (hg : gd ops e ⟨d, .buildSlice t k parts, ty, pos, aft, g⟩ = some true)
    (h : ∀ b m', b = m.heap.size → Chg m b (.cells cs.toArray te (0, 0)) m' → ∃ e', putE n d (.slice (some ⟨b, 0, none⟩) k k) e = some e' ∧ RL P ops Q rest n e' D m') :
    RL P ops Q (⟨d, .buildSlice t k parts, ty, pos, aft, g⟩ :: rest) n e D m := by
  subst hparts; subst hk; subst hcs
  obtain ⟨e', hp, hk⟩ := h m.heap.size _ rfl (Chg.alloc m _)
  refine RL.valueW _ _ hg (fun a w hf hs => ⟨_, ?_, hs.alloc _⟩) hp hk
  have hl := hf.evs hus
  have hlen : us.length = xs.length := by rw [← hl]; simp
  have h2 := run_buildSliceN hT he us (by rw [hlen]; simpa using hne) (by rw [hlen]; exact Nat.le_of_ble_eq_true hsm) hu w
  rw [hlen] at h2
  have h3 : ((opsParts 0 xs).toArray.map fun p => (p.1, a.eval p.2)) = ((us.zipIdx 0).map fun p => (p.2, p.1)).toArray := by
    rw [← hl, ← opsParts_map a.eval xs 0]; simp
  simp only [execOp]
  have h4 : ((opsParts 0 xs).toArray.map fun x => match x with | (i, x) => (i, a.eval x)) = ((us.zipIdx 0).map fun p => (p.2, p.1)).toArray := h3
  rw [h4]
  simp [h2, hs.size]
theorem Src.of_blk {b : Nat} {te : TypeId} {cs : List Value} {k c sz : Nat} (h : Blk m b te cs) (hl : cs.length = k * sz) : Src P sz m (.slice (some ⟨b, 0, none⟩) k c) k cs :=
  ⟨fun w => by simp [Builtin.lenOf], fun w hs => run_firstCells_some w sz k _ k c cs hl fun j u hu => by rw [add_block]; exact (hs.cell _).trans (h.cell _ (by simpa using hu))⟩
/-- 'append(s, u1, u2 ..)': the elements' slice, and the append, one behind the other. -/
theorem RL.append1 (hT : T.Ok P) {te : TypeId} {d1 : Tmp} {S : List Nat} {s : Value} {nn k : Nat} {xs : List Value} {parts : Array (Nat × Operand)} (ys : List Operand) {us : List Value} (hown : Own m S te r.size s nn xs) (news : List Value)
    (he : T.elem t = some (te, r)) (hparts : parts = (opsParts 0 ys).toArray) (hk : ys.length = k) (hne : Nat.blt 0 k = true) (hsm : Nat.ble k 16000 = true) (hnt : notTmp x d1 = true) (hd1 : Nat.blt d1 n = true)
    (hx : e.ev x = some s) (hus : e.evs ys = some us) (hu : ∀ u ∈ us, u.cells.size = r.size) (hcs : us.flatMap (·.cells.toList) = news) (h1 : ∀ u ∈ news, u.oneCell' = true) (hmax : nn + k ≤ maxLen) (hbytes : (nn + k) * r.bytes ≤ 140737488355328)
    (h : ∀ v' m' S', Own m' S' te r.size v' (nn + k) (xs ++ news) → Ext m S m' → FpNew m S S' → ∃ e', putE n d v' ((d1, .slice (some ⟨m.heap.size, 0, none⟩) k k) :: e) = some e' ∧ RL P ops Q rest n e' D m') :
    RL P ops Q (⟨some d1, .buildSlice t k parts, ty1, pos1, aft1, none⟩ :: ⟨d, .call ⟨.builtin .append, #[x, .tmp d1], #[t, t]⟩, ty, pos, aft, none⟩ :: rest) n e D m := by
  obtain ⟨rt, hrt, hkk, hr, hcz, hsz, _⟩ := Ty.elem_spec he
  refine RL.buildSlice hT ys news he hparts hk hne hsm hus hu hcs rfl (fun b m1 hb hC => ⟨(d1, .slice (some ⟨b, 0, none⟩) k k) :: e, by simp [putE, hd1], ?_⟩)
  subst hb
  have hB : Blk m1 m.heap.size te news := hC.here
  have hE := hC.new (Nat.le_refl _)
  have hlen : us.length = k := by
    have : ∀ (l : List Operand) (vs : List Value), e.evs l = some vs → vs.length = l.length := by
      intro l
      induction l with
      | nil => intro vs h; simp [Env.evs] at h; subst h; rfl
      | cons a l ih =>
        intro vs h
        unfold Env.evs at h
        split at h
        · split at h
          · rename_i hq; injection h with h; subst h; simp [ih _ hq]
          · cases h
        · cases h
    rw [this ys us hus, hk]
  have hl : news.length = k * r.size := by
    rw [← hcs, ← hlen]
    have : ∀ l : List Value, (∀ u ∈ l, u.cells.size = r.size) → (l.flatMap (·.cells.toList)).length = l.length * r.size := by
      intro l
      induction l with
      | nil => simp
      | cons a l ih => intro h; simp [ih (fun u hu => h u (by simp [hu])), h a (by simp), Nat.succ_mul, Nat.add_comm]
    exact this us hu
  refine RL.append hT (hown.ext hE (by simp)) news (Src.of_blk (c := k) hB hl) he (by unfold Ty.srcOk; rw [hrt]; simp [hkk]) rfl ((ev_far hnt).trans hx) (by simp [Env.ev, Env.get]) hl h1 hmax hbytes (fun v' m' S' h2 h3 h4 => ?_)
  exact h v' m' S' h2 (hE.mono (by simp) |>.trans h3 (fun k hk => .inl hk)) (h4.trans' hE)
end
end Go.Ev
