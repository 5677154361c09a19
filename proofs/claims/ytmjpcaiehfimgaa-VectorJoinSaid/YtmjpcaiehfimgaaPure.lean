/- The operations that touch no memory, run by looking: a table of types, an evaluator, and that it tells what the model does. No conditions. -/
import Derived.Test.YtmjpcaiehfimgaaEnv
import Derived.Laws.Tables
namespace Go.Ev
open Go.RowKit

/-- What is known of a type. -/
inductive TyK where
  | int (k : IntKind)
  | bool
  | str
  | ptr (e : TypeId)
  | sli (e : TypeId)
  | stru (fs : List (TypeId × Nat × Nat))
  | arr (n : Nat) (e : TypeId)
  | iface
  | map (k v : TypeId)
  | func
  | other
structure Row where
  k : TyK
  size : Nat
  bytes : Nat
  zero : Value
def KOk (P : Program) (t : TypeId) : TyK → Prop
  | .int k => P.underlying t = some (.int k)
  | .bool => P.underlying t = some .bool
  | .str => P.underlying t = some .string
  | .ptr e => P.underlying t = some (.pointer e)
  | .sli e => P.underlying t = some (.slice e)
  | .stru fs => ∃ F, P.underlying t = some (.struct F) ∧ F.toList.map (fun f => (f.type, f.offset, P.cellsOf f.type)) = fs
  | .arr n e => P.underlying t = some (.array n e)
  | .iface => ∃ ms, P.underlying t = some (.interface ms)
  | .map k v => P.underlying t = some (.map k v)
  | .func => ∃ a b c, P.underlying t = some (.func a b c)
  | .other => True
structure ROk (P : Program) (t : TypeId) (r : Row) : Prop where
  k : KOk P t r.k
  info : (P.info? t).map (fun i => (i.zero, i.size, i.bytes)) = some (some r.zero, r.size, r.bytes)
/-- A tree of rows by number. -/
inductive Ty where
  | leaf
  | node (l : Ty) (t : TypeId) (r : Row) (h : Ty)
def Ty.row : Ty → TypeId → Option Row
  | .leaf, _ => none
  | .node l t r h, x => match Nat.beq x t with
    | true => some r
    | false => match Nat.blt x t with
      | true => l.row x
      | false => h.row x
def Ty.Ok (P : Program) : Ty → Prop
  | .leaf => True
  | .node l t r h => l.Ok P ∧ ROk P t r ∧ h.Ok P
theorem Ty.Ok.row {P : Program} {x : TypeId} {r : Row} : ∀ {T : Ty}, T.Ok P → T.row x = some r → ROk P x r
  | .leaf, _, h => by cases h
  | .node l t r' hi, ok, h => by
    unfold Ty.row at h
    split at h
    · rename_i hb
      have hb : x = t := by simpa using hb
      injection h with h
      subst hb; subst h
      exact ok.2.1
    · split at h
      · exact Ty.Ok.row ok.1 h
      · exact Ty.Ok.row ok.2.2 h

section
variable {P : Program} {t : TypeId} {r : Row}
theorem ROk.parts (h : ROk P t r) : ∃ i, P.info? t = some i ∧ i.zero = some r.zero ∧ i.size = r.size ∧ i.bytes = r.bytes := info_parts h.info
theorem ROk.run_size (h : ROk P t r) (w : World) : (sizeOf t).run P w = .ok r.size w := by
  obtain ⟨i, hi, _, hs, _⟩ := h.parts
  simp [sizeOf, typeInfo, hi, hs]
theorem ROk.cells (h : ROk P t r) : P.cellsOf t = r.size := by
  obtain ⟨i, hi, _, hs, _⟩ := h.parts
  simp [Program.cellsOf, hi, hs]
theorem ROk.run_zero (h : ROk P t r) (w : World) : (zeroValue t).run P w = .ok r.zero w := by
  obtain ⟨i, hi, hz, _, _⟩ := h.parts
  simp [zeroValue, typeInfo, hi, hz]
def TyK.agg : TyK → Bool
  | .stru _ | .arr _ _ => true
  | _ => false
def TyK.known : TyK → Bool
  | .other => false
  | _ => true
theorem ROk.run_isAgg (h : ROk P t r) (hk : r.k.known = true) (w : World) : (isAgg t).run P w = .ok r.k.agg w := by
  have h1 := h.k
  cases hr : r.k <;> rw [hr] at h1 <;> simp only [KOk] at h1
  case stru fs => obtain ⟨F, hF, _⟩ := h1; simp [isAgg, run_underlying hF, TyK.agg]
  case iface => obtain ⟨F, hF⟩ := h1; simp [isAgg, run_underlying hF, TyK.agg]
  case func => obtain ⟨a, b, c, hF⟩ := h1; simp [isAgg, run_underlying hF, TyK.agg]
  case other => rw [hr] at hk; cases hk
  all_goals simp [isAgg, run_underlying h1, TyK.agg]
end

/-! ### Values -/
def kEq : IntKind → IntKind → Bool
  | .i8, .i8 => true | .i16, .i16 => true | .i32, .i32 => true | .i64, .i64 => true
  | .u8, .u8 => true | .u16, .u16 => true | .u32, .u32 => true | .u64, .u64 => true
  | _, _ => false
theorem kEq_eq {a b : IntKind} (h : kEq a b = true) : a = b := by cases a <;> cases b <;> simp_all [kEq]
def ifSame (k k' : IntKind) (v : Value) : Option Value := match kEq k k' with
  | true => some v
  | false => none
theorem ifSame_some {k k' : IntKind} {v u : Value} (h : ifSame k k' v = some u) : k = k' ∧ v = u := by
  unfold ifSame at h
  split at h
  · rename_i hk; exact ⟨kEq_eq hk, Option.some.inj h⟩
  · cases h
/-- 2 ^ s at the width of a kind. -/
def shAmt (k : IntKind) (s : Nat) : Nat := min s k.bits
def intBin (op : BinOp) (k k' : IntKind) (a b : Int) : Option Value :=
  match op with
  | .add => ifSame k k' (.int k (k.wrap (a + b)))
  | .sub => ifSame k k' (.int k (k.wrap (a - b)))
  | .mul => ifSame k k' (.int k (k.wrap (a * b)))
  | .and => ifSame k k' (.int k (bits .and k a b))
  | .or => ifSame k k' (.int k (bits .or k a b))
  | .xor => ifSame k k' (.int k (bits .xor k a b))
  | .andNot => ifSame k k' (.int k (bits .andNot k a b))
  | .eql => ifSame k k' (.bool (a == b))
  | .neq => ifSame k k' (.bool (a != b))
  | .lss => ifSame k k' (.bool (decide (a < b)))
  | .leq => ifSame k k' (.bool (decide (a ≤ b)))
  | .gtr => ifSame k k' (.bool (decide (a > b)))
  | .geq => ifSame k k' (.bool (decide (a ≥ b)))
  | .shl => match b with
    | .ofNat s => some (.int k (k.wrap (a * 2 ^ shAmt k s)))
    | .negSucc _ => none
  | .shr => match b with
    | .ofNat s => some (.int k (a.fdiv (2 ^ shAmt k s)))
    | .negSucc _ => none
  | .quo => match b with
    | .ofNat 0 => none
    | _ => ifSame k k' (.int k (k.wrap (a.tdiv b)))
  | .rem => match b with
    | .ofNat 0 => none
    | _ => ifSame k k' (.int k (a.tmod b))
def strBin (op : BinOp) (a b : ByteArray) : Option Value :=
  match op with
  | .eql => some (.bool (a.toList == b.toList))
  | .neq => some (.bool !(a.toList == b.toList))
  | .lss => some (.bool (Op.bytesLess a.toList b.toList))
  | .gtr => some (.bool !(Op.bytesLess a.toList b.toList || a.toList == b.toList))
  | _ => none
def vBin (op : BinOp) (x y : Value) : Option Value :=
  match x, y with
  | .int k a, .int k' b => intBin op k k' a b
  | .string a, .string b => strBin op a b
  | _, _ => none
theorem vBin_sound {P : Program} {op : BinOp} {t : TypeId} {x y v : Value} (h : vBin op x y = some v) (w : World) : (binOp op t x y).run P w = .ok v w := by
  unfold vBin at h
  split at h
  · rename_i k a k' b
    cases op <;> simp only [intBin] at h
    case shl =>
      split at h
      · injection h with h; subst h; simp [binOp, Op.shift, shAmt]; omega
      · cases h
    case shr =>
      split at h
      · injection h with h; subst h; simp [binOp, Op.shift, shAmt]; omega
      · cases h
    case quo =>
      split at h
      · cases h
      · rename_i hb
        obtain ⟨rfl, rfl⟩ := ifSame_some h
        simp [binOp, Op.intDiv, show ¬ b = 0 from fun hh => hb hh]
    case rem =>
      split at h
      · cases h
      · rename_i hb
        obtain ⟨rfl, rfl⟩ := ifSame_some h
        simp [binOp, Op.intDiv, show ¬ b = 0 from fun hh => hb hh]
    all_goals
      obtain ⟨rfl, rfl⟩ := ifSame_some h
      simp [binOp, Op.intArith, Op.intCmp, Op.intBits, bits]
  · rename_i a b
    cases op <;> simp only [strBin] at h <;> first
      | (injection h with h; subst h; simp [binOp, Op.stringOp])
      | cases h
  · cases h

/-- Equality of values that are no integers and no texts. -/
def eqV (T : Ty) (t : TypeId) (a b : Value) : Option Bool :=
  match a, b with
  | .bool p, .bool q => match T.row t with
    | some r => match r.k with
      | .bool => some (p == q)
      | _ => none
    | none => none
  | .slice A _ _, .slice none 0 0 => match T.row t with
    | some r => match r.k with
      | .sli _ => some A.isNone
      | _ => none
    | none => none
  | .pointer A, .pointer none => match T.row t with
    | some r => match r.k with
      | .ptr _ => some A.isNone
      | _ => none
    | none => none
  | _, _ => none
theorem eqV_sound {P : Program} {T : Ty} (hT : T.Ok P) {t : TypeId} {a b : Value} {q : Bool} (h : eqV T t a b = some q) (d : Nat) (w : World) : (Op.equalIn (d + 1) t a b).run P w = .ok q w := by
  unfold eqV at h
  split at h
  · rename_i p q'
    split at h
    · rename_i r hr
      split at h
      · rename_i hk
        have h1 := (hT.row hr).k; rw [hk] at h1
        injection h with h; subst h
        simp [Op.equalIn, run_underlying h1]
      · cases h
    · cases h
  · rename_i A l c
    split at h
    · rename_i r hr
      split at h
      · rename_i te hk
        have h1 := (hT.row hr).k; rw [hk] at h1
        injection h with h; subst h
        cases A <;> simp [Op.equalIn, run_underlying h1]
      · cases h
    · cases h
  · rename_i A
    split at h
    · rename_i r hr
      split at h
      · rename_i te hk
        have h1 := (hT.row hr).k; rw [hk] at h1
        injection h with h; subst h
        cases A <;> simp [Op.equalIn, run_underlying h1]
      · cases h
    · cases h
  · cases h
theorem eqV_eql {P : Program} {T : Ty} (hT : T.Ok P) {t : TypeId} {a b : Value} {q : Bool} (h : eqV T t a b = some q) (w : World) : (binOp .eql t a b).run P w = .ok (.bool q) w := by
  have h0 : (Op.equal t a b).run P w = .ok q w := eqV_sound hT h 9999 w
  unfold eqV at h
  split at h
  · simp only [binOp]; simp [h0]
  · simp only [binOp]; simp [h0]
  · simp only [binOp]; simp [h0]
  · cases h
theorem eqV_neq {P : Program} {T : Ty} (hT : T.Ok P) {t : TypeId} {a b : Value} {q : Bool} (h : eqV T t a b = some q) (w : World) : (binOp .neq t a b).run P w = .ok (.bool !q) w := by
  have h0 : (Op.equal t a b).run P w = .ok q w := eqV_sound hT h 9999 w
  unfold eqV at h
  split at h
  · simp only [binOp]; simp [h0]
  · simp only [binOp]; simp [h0]
  · simp only [binOp]; simp [h0]
  · cases h
theorem eqV_guard {P : Program} {T : Ty} {op : BinOp} {t : TypeId} {x y : Operand} {a b : Value} {q : Bool} (h : eqV T t a b = some q) (w : World) : (eqGuard op t x y a b).run P w = .ok () w := by
  unfold eqV at h
  split at h
  · simp [eqGuard]
  · simp [eqGuard]
  · simp [eqGuard]
  · cases h
/-- The cells of a value. -/
def cellsL : Value → Option (List Value)
  | .agg ⟨l⟩ => some l
  | .tuple _ => none
  | v => some [v]
def setSeg : List Value → Nat → List Value → Option (List Value)
  | l, 0, [] => some l
  | _ :: l, 0, v :: vs => match setSeg l 0 vs with
    | some r => some (v :: r)
    | none => none
  | c :: l, k + 1, vs => match setSeg l k vs with
    | some r => some (c :: r)
    | none => none
  | _, _, _ => none
def buildL (fs : List (TypeId × Nat × Nat)) (e : Env) : List (Nat × Operand) → List Value → Option (List Value)
  | [], l => some l
  | (i, x) :: rest, l => match e.ev x with
    | some v => match fs[i]? with
      | some (_, off, size) => match cellsL v with
        | some vs => match Nat.beq vs.length size with
          | true => match setSeg l off vs with
            | some l' => buildL fs e rest l'
            | none => none
          | false => none
        | none => none
      | none => none
    | none => none
def allPos : List (TypeId × Nat × Nat) → Bool
  | [] => true
  | (_, _, k) :: r => match k with
    | 0 => false
    | _ + 1 => allPos r
theorem cellsL_eq {v : Value} {l : List Value} (h : cellsL v = some l) : v.cells = l.toArray := by
  unfold cellsL at h
  split at h
  · injection h with h; subst h; rfl
  · cases h
  · rename_i h1 h2
    injection h with h; subst h
    cases v <;> first
      | rfl
      | (rename_i cs; exact absurd rfl (h1 cs.toList))
theorem setSeg_eq : ∀ (l : List Value) (k : Nat) (vs r : List Value), setSeg l k vs = some r → k + vs.length ≤ l.length ∧ r = l.take k ++ vs ++ l.drop (k + vs.length)
  | l, 0, [], r, h => by simp [setSeg] at h; subst h; simp
  | [], 0, v :: vs, r, h => by simp [setSeg] at h
  | c :: l, 0, v :: vs, r, h => by
    unfold setSeg at h
    split at h
    · rename_i r' hr
      injection h with h; subst h
      obtain ⟨h1, h2⟩ := setSeg_eq l 0 vs r' hr
      subst h2
      refine ⟨by simp at h1 ⊢; omega, ?_⟩
      simp
    · cases h
  | [], k + 1, vs, r, h => by simp [setSeg] at h
  | c :: l, k + 1, vs, r, h => by
    unfold setSeg at h
    split at h
    · rename_i r' hr
      injection h with h; subst h
      obtain ⟨h1, h2⟩ := setSeg_eq l k vs r' hr
      subst h2
      refine ⟨by simp; omega, ?_⟩
      simp [Nat.add_right_comm]
    · cases h
theorem foldSet (base : Nat) : ∀ (l : List Value) (j : Nat) (pre suf : List Value), l.length ≤ suf.length → pre.length = base + j →
    (l.zipIdx j).foldl (fun (cs : Array Value) (c : Value × Nat) => cs.setIfInBounds (base + c.2) c.1) (pre ++ suf).toArray = (pre ++ l ++ suf.drop l.length).toArray
  | [], j, pre, suf, _, _ => by simp
  | c :: l, j, pre, [], h, _ => by simp at h
  | c :: l, j, pre, s0 :: suf, h, hp => by
    simp only [List.zipIdx_cons, List.foldl_cons]
    have h1 : ((pre ++ s0 :: suf).toArray.setIfInBounds (base + j) c) = ((pre ++ [c]) ++ suf).toArray := by
      rw [List.setIfInBounds_toArray]; congr 1; rw [← hp]; simp
    rw [h1, foldSet base l (j + 1) (pre ++ [c]) suf (by simpa using h) (by simp [hp, Nat.add_assoc])]
    simp
theorem buildL_fill {fs : List (TypeId × Nat × Nat)} {n : Nat} {e : Env} {D : Fr} {a : Act} (hf : Fits n e D a) : ∀ (ps : List (Nat × Operand)) (l r : List Value), buildL fs e ps l = some r →
    Instr.fill ((fs.map fun q => (q.2.1, q.2.2)).toArray[·]?) l.toArray (ps.map fun p => (p.1, a.eval p.2)) = some r.toArray
  | [], l, r, h => by simp only [buildL, Option.some.injEq] at h; subst h; simp [Instr.fill]
  | (i, x) :: ps, l, r, h => by
    unfold buildL at h
    split at h
    · rename_i v hv
      split at h
      · rename_i ft off size hq
        split at h
        · rename_i vs hvs
          split at h
          · rename_i hsz
            split at h
            · rename_i l' hl'
              have ih := buildL_fill hf ps l' r h
              obtain ⟨h1, h2⟩ := setSeg_eq l off vs l' hl'
              have hc := cellsL_eq hvs
              have hs : vs.length = size := by simpa using hsz
              have hpl : (fs.map fun q => (q.2.1, q.2.2)).toArray[i]? = some (off, size) := by simp [hq]
              simp only [List.map_cons, Instr.fill, hpl, hf.ev hv]
              rw [if_neg (by simp [hc, hs]; omega)]
              rw [← ih]
              congr 1
              rw [hc]
              have h3 : ∀ z : Array Value, (vs.toArray.zipIdx.foldl (fun cs x => cs.setIfInBounds (off + x.2) x.1) z) = (vs.zipIdx 0).foldl (fun (cs : Array Value) (c : Value × Nat) => cs.setIfInBounds (off + c.2) c.1) z := by
                intro z
                rw [← Array.foldl_toList]
                simp
              rw [h3]
              have h4 := foldSet off vs 0 (l.take off) (l.drop off) (by simp; omega) (by simp; omega)
              rw [List.take_append_drop] at h4
              rw [h4, h2]
              simp [List.drop_drop]
            · cases h
          · cases h
        · cases h
      · cases h
    · cases h
theorem places_some {P : Program} : ∀ (F : List Field), allPos (F.map fun f => (f.type, f.offset, P.cellsOf f.type)) = true →
    F.mapM (fun f => (P.info? f.type).map fun i => (f.offset, i.size)) = some ((F.map fun f => (f.type, f.offset, P.cellsOf f.type)).map fun q => (q.2.1, q.2.2))
  | [], _ => by simp
  | f :: F, h => by
    simp only [List.map_cons, allPos] at h
    split at h
    · cases h
    · rename_i k hk
      have ih := places_some F h
      cases hi : P.info? f.type with
      | none => simp [Program.cellsOf, hi] at hk
      | some i => simp [hi, ih, Program.cellsOf]
/-- An operation on values alone. -/
def pv (T : Ty) (e : Env) : Op → Option Value
  | .move x => e.ev x
  | .assign x => e.ev x
  | .pick c a b => match e.ev c with
    | some (.bool true) => e.ev a
    | some (.bool false) => e.ev b
    | _ => none
  | .nilCheck x => match e.ev x with
    | some (.pointer (some p)) => some (.pointer (some p))
    | some (.func (.func f) fi ca) => some (.func (.func f) fi ca)
    | _ => none
  | .binOp .eql t x (.const .nilIface) _ => match e.ev x with
    | some v => match T.row t with
      | some r => match r.k with
        | .iface => match v with
          | .nilIface => some (.bool true)
          | .iface _ _ => some (.bool false)
          | _ => none
        | _ => none
      | none => none
    | none => none
  | .binOp op t x y _ => match e.ev x with
    | some a => match e.ev y with
      | some b => match vBin op a b with
        | some v => some v
        | none => match op with
          | .eql => match eqV T t a b with
            | some q => some (.bool q)
            | none => none
          | .neq => match eqV T t a b with
            | some q => some (.bool !q)
            | none => none
          | _ => none
      | none => none
    | none => none
  | .unOp op _ x => match op, e.ev x with
    | .not, some (.bool b) => some (.bool !b)
    | .neg, some (.int k a) => some (.int k (k.wrap (0 - a)))
    | .xor, some (.int k a) => some (.int k (bits .xor k (if k.signed then -1 else k.max) a))
    | _, _ => none
  | .convert s d x => match e.ev x with
    | some (.int _ a) => match T.row s with
      | some rs => match rs.k.known with
        | true => match T.row d with
          | some r => match r.k with
            | .int k => some (.int k (k.wrap a))
            | _ => none
          | none => none
        | false => none
      | none => none
    | _ => none
  | .fieldAddr s x f => match e.ev x with
    | some (.pointer (some p)) => match T.row s with
      | some r => match r.k with
        | .stru fs => match fs[f]? with
          | some (ft, off, _) => match T.row ft with
            | some qr => match qr.size with
              | 0 => none
              | _ + 1 => some (.pointer (some (p.add off)))
            | none => none
          | none => none
        | _ => none
      | none => none
    | _ => none
  | .makeFunc (.func f) first captured => match e.evs first.toList with
    | some a => match e.evs captured.toList with
      | some b => some (.func (.func f) a.toArray b.toArray)
      | none => none
    | none => none
  | .makeInterface t x => match e.ev x with
    | some v => match T.row t with
      | some r => match r.k with
        | .iface => none
        | .other => none
        | _ => some (.iface t v)
      | none => none
    | none => none
  | .extract x i => match e.ev x with
    | some (.tuple ⟨vs⟩) => vs[i]?
    | _ => none
  | .build t ⟨parts⟩ => match T.row t with
    | some r => match r.k with
      | .stru fs => match r.zero with
        | .agg ⟨z⟩ => match allPos fs with
          | true => match buildL fs e parts z with
            | some l => some (.agg ⟨l⟩)
            | none => none
          | false => none
        | _ => none
      | _ => none
    | none => none
  | .typeAssert x _ t true => match T.row t with
    | some r => match r.k with
      | .iface => none
      | .other => none
      | _ => match e.ev x with
        | some .nilIface => some (.tuple #[r.zero, .bool false])
        | some (.iface u v) => match Nat.beq u t with
          | true => some (.tuple #[v, .bool true])
          | false => some (.tuple #[r.zero, .bool false])
        | _ => none
    | none => none
  | .call ⟨.builtin .len, ⟨[x]⟩, ⟨[t]⟩⟩ => match e.ev x with
    | some (.slice _ len _) => match T.row t with
      | some r => match r.k with
        | .sli _ => some (.int .i64 len)
        | _ => none
      | none => none
    | some (.string s) => match T.row t with
      | some r => match r.k with
        | .str => some (.int .i64 s.size)
        | _ => none
      | none => none
    | _ => none
  | .call ⟨.builtin .cap, ⟨[x]⟩, ⟨[t]⟩⟩ => match e.ev x with
    | some (.slice _ _ c) => match T.row t with
      | some r => match r.k with
        | .sli _ => some (.int .i64 c)
        | _ => none
      | none => none
    | _ => none
  | .call ⟨.builtin .min, ⟨[x, y]⟩, _⟩ => match e.ev x with
    | some (.int k a) => match e.ev y with
      | some (.int _ b) => some (.int k (if b < a then b else a))
      | _ => none
    | _ => none
  | .call ⟨.builtin .max, ⟨[x, y]⟩, _⟩ => match e.ev x with
    | some (.int k a) => match e.ev y with
      | some (.int _ b) => some (.int k (if b > a then b else a))
      | _ => none
    | _ => none
  | _ => none

theorem equalIn_nilI_nil {P : Program} {t : TypeId} {ms : Array (String × TypeId)} (h : P.underlying t = some (.interface ms)) (d : Nat) (w : World) : (Op.equalIn (d + 1) t .nilIface .nilIface).run P w = .ok true w := by
  simp [Op.equalIn, run_underlying h]
theorem equalIn_held_nil {P : Program} {t u : TypeId} {x : Value} {ms : Array (String × TypeId)} (h : P.underlying t = some (.interface ms)) (d : Nat) (w : World) : (Op.equalIn (d + 1) t (.iface u x) .nilIface).run P w = .ok false w := by
  simp [Op.equalIn, run_underlying h]
theorem eql_nilI_nil {P : Program} {t : TypeId} {ms : Array (String × TypeId)} (h : P.underlying t = some (.interface ms)) (w : World) : (binOp .eql t .nilIface .nilIface).run P w = .ok (.bool true) w := by
  have h0 : (Op.equal t .nilIface .nilIface).run P w = .ok true w := equalIn_nilI_nil h 9999 w
  simp only [binOp]; simp [h0]
theorem eql_held_nil {P : Program} {t u : TypeId} {x : Value} {ms : Array (String × TypeId)} (h : P.underlying t = some (.interface ms)) (w : World) : (binOp .eql t (.iface u x) .nilIface).run P w = .ok (.bool false) w := by
  have h0 : (Op.equal t (.iface u x) .nilIface).run P w = .ok false w := equalIn_held_nil h 9999 w
  simp only [binOp]; simp [h0]
theorem pv_sound {P : Program} {T : Ty} (hT : T.Ok P) {n : Nat} {e : Env} {D : Fr} {a : Act} (hf : Fits n e D a) {o : Oper} {v : Value} (h : pv T e o.op = some v) (w : World) :
    (execOp a.eval o).run P w = .ok (.value v) w := by
  unfold execOp
  unfold pv at h
  split at h
  case h_1 x ho => rw [ho]; show Sem.run P (pure (Next.value (a.eval x))) w = _; rw [hf.ev h]; rfl
  case h_2 x ho => rw [ho]; show Sem.run P (pure (Next.value (a.eval x))) w = _; rw [hf.ev h]; rfl
  case h_3 c x y ho =>
    rw [ho]
    split at h
    · rename_i hc; simp [hf.ev hc, asBool, hf.ev h]
    · rename_i hc; simp [hf.ev hc, asBool, hf.ev h]
    · cases h
  case h_4 x ho =>
    rw [ho]
    split at h
    · rename_i p hp; injection h with h; subst h; simp [hf.ev hp]
    · rename_i f fi ca hp; injection h with h; subst h; simp [hf.ev hp]
    · cases h
  case h_5 t x yt ho =>
    rw [ho]
    split at h
    · rename_i p hp
      split at h
      · rename_i r hr
        split at h
        · rename_i hk
          have h1 := (hT.row hr).k
          rw [hk] at h1
          obtain ⟨ms, hms⟩ := h1
          split at h
          · injection h with h; subst h
            simp [hf.ev hp, show a.eval (.const .nilIface) = .nilIface from rfl, eqGuard, eql_nilI_nil hms]
          · injection h with h; subst h
            simp [hf.ev hp, show a.eval (.const .nilIface) = .nilIface from rfl, eqGuard, eql_held_nil hms]
          · cases h
        · cases h
      · cases h
    · cases h
  case h_6 op t x y yt hne ho =>
    rw [ho]
    split at h
    · rename_i p hp
      split at h
      · rename_i q hq
        simp only [hf.ev hp, hf.ev hq]
        split at h
        · rename_i v' hv
          injection h with h; subst h
          have h1 := vBin_sound (P := P) (t := t) hv w
          have h2 : (eqGuard op t x y p q).run P w = .ok () w := by
            unfold vBin at hv
            split at hv
            · simp [eqGuard]
            · simp [eqGuard]
            · cases hv
          simp [h1, h2]
        · split at h
          · split at h
            · rename_i q' hq'
              injection h with h; subst h
              simp [eqV_eql hT hq', eqV_guard hq']
            · cases h
          · split at h
            · rename_i q' hq'
              injection h with h; subst h
              simp [eqV_neq hT hq', eqV_guard hq']
            · cases h
          · cases h
      · cases h
    · cases h
  case h_7 op t x ho =>
    rw [ho]
    split at h
    · rename_i b hb; injection h with h; subst h; simp [hf.ev hb, Op.unary]
    · rename_i k a' hb; injection h with h; subst h; simp [hf.ev hb, Op.unary, Op.intArith]
    · rename_i k a' hb; injection h with h; subst h; simp [hf.ev hb, Op.unary, Op.intBits, bits]
    · cases h
  case h_8 s d x ho =>
    rw [ho]
    split at h
    · rename_i k0 a' hx
      split at h
      · rename_i rs hrs
        split at h
        · rename_i hkn
          split at h
          · rename_i r hr
            split at h
            · rename_i k hk
              injection h with h; subst h
              have h1 := (hT.row hr).k
              rw [hk] at h1
              have h2 : ∃ d', P.underlying s = some d' := by
                have h3 := (hT.row hrs).k
                cases hrk : rs.k <;> rw [hrk] at h3 <;> simp only [KOk] at h3
                case stru fs => obtain ⟨F, hF, _⟩ := h3; exact ⟨_, hF⟩
                case iface => obtain ⟨F, hF⟩ := h3; exact ⟨_, hF⟩
                case func => obtain ⟨_, _, _, hF⟩ := h3; exact ⟨_, hF⟩
                case other => rw [hrk] at hkn; cases hkn
                all_goals exact ⟨_, h3⟩
              obtain ⟨d', hd'⟩ := h2
              simp [convert, hf.ev hx, run_underlying h1, run_underlying hd', Conv.intToInt]
            · cases h
          · cases h
        · cases h
      · cases h
    · cases h
  case h_9 s x f ho =>
    rw [ho]
    split at h
    · rename_i p hp
      split at h
      · rename_i r hr
        split at h
        · rename_i fs hk
          split at h
          · rename_i q1 q2 q3 hq
            split at h
            · rename_i qr hqr
              split at h
              · cases h
              · rename_i sz hsz
                injection h with h; subst h
                have h1 := (hT.row hr).k
                rw [hk] at h1
                obtain ⟨F, hF, hmap⟩ := h1
                have hq' : (F.toList.map fun f => (f.type, f.offset, P.cellsOf f.type))[f]? = some (q1, q2, q3) := by rw [hmap]; exact hq
                rw [List.getElem?_map] at hq'
                obtain ⟨fl, hfl, hfq⟩ := Option.map_eq_some_iff.1 hq'
                have hfl' : F[f]? = some fl := by simpa using hfl
                simp only [Prod.mk.injEq] at hfq
                obtain ⟨rfl, rfl, rfl⟩ := hfq
                have hs := (hT.row hqr).run_size w
                rw [hsz] at hs
                simp [Instr.fieldAt, hf.ev hp, run_underlying hF, hfl', Instr.sureAddr, fieldPlace, hs]
            · cases h
          · cases h
        · cases h
      · cases h
    · cases h
  case h_10 f first captured ho =>
    rw [ho]
    split at h
    · rename_i x hx
      split at h
      · rename_i y hy
        injection h with h; subst h
        have h1 : first.map a.eval = x.toArray := Array.ext' (by rw [Array.toList_map]; exact hf.evs hx)
        have h2 : captured.map a.eval = y.toArray := Array.ext' (by rw [Array.toList_map]; exact hf.evs hy)
        simp [Instr.makeFunc, h1, h2]
      · cases h
    · cases h
  case h_11 t x ho =>
    rw [ho]
    split at h
    · rename_i u hu
      split at h
      · rename_i r hr
        have h1 := (hT.row hr).k
        split at h
        · cases h
        · cases h
        · rename_i hn1 hn2
          injection h with h; subst h
          cases hrk : r.k <;> rw [hrk] at h1 <;> simp only [KOk] at h1
          case stru fs => obtain ⟨F, hF, _⟩ := h1; simp [Instr.makeInterface, hf.ev hu, run_underlying hF]
          case iface => exact absurd hrk hn1
          case func => obtain ⟨_, _, _, hF⟩ := h1; simp [Instr.makeInterface, hf.ev hu, run_underlying hF]
          case other => exact absurd hrk hn2
          all_goals simp [Instr.makeInterface, hf.ev hu, run_underlying h1]
      · cases h
    · cases h
  case h_12 x i ho =>
    rw [ho]
    split at h
    · rename_i vs hx
      have hx' := hf.ev hx
      have h' : (Array.mk vs)[i]? = some v := by simpa using h
      simp [Instr.extract, hx', h']
    · cases h
  case h_13 t parts ho =>
    rw [ho]
    split at h
    · rename_i r hr
      split at h
      · rename_i fs hk
        split at h
        · rename_i z hz
          split at h
          · rename_i hpos
            split at h
            · rename_i l hl
              injection h with h; subst h
              obtain ⟨i, hi, hzero, _, _⟩ := (hT.row hr).parts
              have h1 := (hT.row hr).k; rw [hk] at h1
              obtain ⟨F, hF, hmap⟩ := h1
              have hb : P.built t (parts.map fun p => (p.1, a.eval p.2)) = some l.toArray := by
                unfold Program.built
                simp only [hi, hF, hzero, hz]
                have h2 := places_some (P := P) F.toList (by rw [hmap]; exact hpos)
                rw [hmap] at h2
                rw [h2]
                exact buildL_fill hf parts z l hl
              have h3 := run_build (P := P) w t ((Array.mk parts).map fun p => (p.1, a.eval p.2)) l.toArray (by simpa using hb)
              show Sem.run P (do pure (Next.value (← Instr.build t ((Array.mk parts).map fun p => (p.1, a.eval p.2))))) w = _
              simp only [Sem.run_bind, h3, Result.andThen_ok, Sem.run_pure]
            · cases h
          · cases h
        · cases h
      · cases h
    · cases h
  case h_14 x xt t ho =>
    rw [ho]
    split at h
    · rename_i r hr
      have h1 := (hT.row hr).k
      split at h
      · cases h
      · cases h
      · rename_i hn1 hn2
        have h2 : ∃ d', P.underlying t = some d' ∧ (∀ ms, d' ≠ .interface ms) := by
          cases hrk : r.k <;> rw [hrk] at h1 <;> simp only [KOk] at h1
          case stru fs => obtain ⟨F, hF, _⟩ := h1; exact ⟨_, hF, by simp⟩
          case iface => exact absurd hrk hn1
          case func => obtain ⟨_, _, _, hF⟩ := h1; exact ⟨_, hF, by simp⟩
          case other => exact absurd hrk hn2
          all_goals exact ⟨_, h1, by simp⟩
        obtain ⟨d', hd', hni⟩ := h2
        split at h
        · rename_i hx
          injection h with h; subst h
          simp [Instr.typeAssert, hf.ev hx, run_underlying hd', (hT.row hr).run_zero]
          first
            | done
            | (cases d' <;> simp at hni ⊢)
        · rename_i u v' hx
          split at h
          · rename_i hut
            have hut : u = t := by simpa using hut
            subst hut
            injection h with h; subst h
            simp [Instr.typeAssert, hf.ev hx, run_underlying hd']
            first
              | done
              | (cases d' <;> simp at hni ⊢)
          · rename_i hut
            have hut : u ≠ t := Nat.ne_of_beq_eq_false hut
            injection h with h; subst h
            simp [Instr.typeAssert, hf.ev hx, run_underlying hd', (hT.row hr).run_zero]
            first
              | done
              | (cases d' <;> simp [hut] at hni ⊢)
        · cases h
    · cases h
  case h_15 x t ho =>
    rw [ho]
    split at h
    · rename_i q len c hx
      split at h
      · rename_i r hr
        split at h
        · rename_i el hk
          have h1 := (hT.row hr).k
          rw [hk] at h1
          injection h with h; subst h
          simp [resolve, invoke, builtin, Builtin.len_, hf.ev hx, run_underlying h1, goInt]
        · cases h
      · cases h
    · rename_i s hx
      split at h
      · rename_i r hr
        split at h
        · rename_i hk
          have h1 := (hT.row hr).k
          rw [hk] at h1
          injection h with h; subst h
          simp [resolve, invoke, builtin, Builtin.len_, hf.ev hx, run_underlying h1, goInt]
        · cases h
      · cases h
    · cases h
  case h_16 x t ho =>
    rw [ho]
    split at h
    · rename_i q len c hx
      split at h
      · rename_i r hr
        split at h
        · rename_i el hk
          have h1 := (hT.row hr).k
          rw [hk] at h1
          injection h with h; subst h
          simp [resolve, invoke, builtin, Builtin.cap_, hf.ev hx, run_underlying h1, goInt]
        · cases h
      · cases h
    · cases h
  case h_17 x y t ho =>
    rw [ho]
    split at h
    · rename_i k a' hx
      split at h
      · rename_i k' b' hy
        injection h with h; subst h
        simp [resolve, invoke, builtin, Builtin.min_, Builtin.min2, hf.ev hx, hf.ev hy]
      · cases h
    · cases h
  case h_18 x y t ho =>
    rw [ho]
    split at h
    · rename_i k a' hx
      split at h
      · rename_i k' b' hy
        injection h with h; subst h
        simp [resolve, invoke, builtin, Builtin.max_, Builtin.max2, hf.ev hx, hf.ev hy]
      · cases h
    · cases h
  case h_19 => cases h

/-- So many operations at once: what is known behind them, and what is left. -/
def runP (T : Ty) (ops : Array Oper) (n : Nat) : Nat → Env → List Oper → Option (Env × List Oper)
  | 0, e, l => some (e, l)
  | k + 1, e, l => match l with
    | [] => none
    | o :: rest => match gd ops e o with
      | some true => match pv T e o.op with
        | some v => match putE n o.dst v e with
          | some e' => runP T ops n k e' rest
          | none => none
        | none => none
      | some false => match putE n o.dst undef e with
        | some e' => runP T ops n k e' rest
        | none => none
      | none => none
theorem runP_sound {P : Program} {T : Ty} (hT : T.Ok P) {ops : Array Oper} {Q : Exit → Act → World → Prop} {n : Nat} {D : Fr} {m : World} :
    ∀ (k : Nat) (e : Env) (l : List Oper) (e' : Env) (l' : List Oper), runP T ops n k e l = some (e', l') → RL P ops Q l' n e' D m → RL P ops Q l n e D m
  | 0, e, l, e', l', h, hk => by
    simp only [runP, Option.some.injEq, Prod.mk.injEq] at h
    obtain ⟨rfl, rfl⟩ := h
    exact hk
  | k + 1, e, l, e', l', h, hk => by
    unfold runP at h
    split at h
    · cases h
    · rename_i o rest
      split at h
      · rename_i hg
        split at h
        · rename_i v hv
          split at h
          · rename_i e1 he1
            exact RL.value v hg (fun a w hf _ => pv_sound hT hf hv w) he1 (runP_sound hT k e1 rest e' l' h hk)
          · cases h
        · cases h
      · rename_i hg
        split at h
        · rename_i e1 he1
          exact RL.skip hg he1 (runP_sound hT k e1 rest e' l' h hk)
        · cases h
      · cases h
theorem RL.pure {P : Program} {T : Ty} (hT : T.Ok P) (k : Nat) {ops : Array Oper} {Q : Exit → Act → World → Prop} {n : Nat} {e e' : Env} {D : Fr} {m : World} {l l' : List Oper}
    (h : runP T ops n k e l = some (e', l')) (hk : RL P ops Q l' n e' D m) : RL P ops Q l n e D m := runP_sound hT k e l e' l' h hk
/-- As many as go. -/
def runA (T : Ty) (ops : Array Oper) (n : Nat) : Nat → Env → List Oper → Env × List Oper
  | 0, e, l => (e, l)
  | k + 1, e, l => match l with
    | [] => (e, [])
    | o :: rest => match gd ops e o with
      | some true => match pv T e o.op with
        | some v => match putE n o.dst v e with
          | some e' => runA T ops n k e' rest
          | none => (e, o :: rest)
        | none => (e, o :: rest)
      | some false => match putE n o.dst undef e with
        | some e' => runA T ops n k e' rest
        | none => (e, o :: rest)
      | none => (e, o :: rest)
theorem runA_sound {P : Program} {T : Ty} (hT : T.Ok P) {ops : Array Oper} {Q : Exit → Act → World → Prop} {n : Nat} {D : Fr} {m : World} :
    ∀ (k : Nat) (e : Env) (l : List Oper) (e' : Env) (l' : List Oper), runA T ops n k e l = (e', l') → RL P ops Q l' n e' D m → RL P ops Q l n e D m
  | 0, e, l, e', l', h, hk => by
    simp only [runA, Prod.mk.injEq] at h
    obtain ⟨rfl, rfl⟩ := h
    exact hk
  | k + 1, e, l, e', l', h, hk => by
    unfold runA at h
    split at h
    · simp only [Prod.mk.injEq] at h; obtain ⟨rfl, rfl⟩ := h; exact hk
    · rename_i o rest
      split at h
      · rename_i hg
        split at h
        · rename_i v hv
          split at h
          · rename_i e1 he1
            exact RL.value v hg (fun a w hf _ => pv_sound hT hf hv w) he1 (runA_sound hT k e1 rest e' l' h hk)
          · simp only [Prod.mk.injEq] at h; obtain ⟨rfl, rfl⟩ := h; exact hk
        · simp only [Prod.mk.injEq] at h; obtain ⟨rfl, rfl⟩ := h; exact hk
      · rename_i hg
        split at h
        · rename_i e1 he1
          exact RL.skip hg he1 (runA_sound hT k e1 rest e' l' h hk)
        · simp only [Prod.mk.injEq] at h; obtain ⟨rfl, rfl⟩ := h; exact hk
      · simp only [Prod.mk.injEq] at h; obtain ⟨rfl, rfl⟩ := h; exact hk
theorem RL.auto {P : Program} {T : Ty} (hT : T.Ok P) {ops : Array Oper} {Q : Exit → Act → World → Prop} {n : Nat} {e e' : Env} {D : Fr} {m : World} {l l' : List Oper}
    (h : runA T ops n 60 e l = (e', l')) (hk : RL P ops Q l' n e' D m) : RL P ops Q l n e D m := runA_sound hT 60 e l e' l' h hk
end Go.Ev
