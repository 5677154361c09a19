/- Texts that belong together. -/
import Derived.Test.YtgpgladbdoimdaaGreatDoorMLawMV1
import Derived.Laws.Tables
import Derived.Great.BuildSlice
import Derived.Test.YtgpgladbdoimdaaGreatDoorProg
import Derived.KernelRfl
namespace Go.Ev
open Go.RowKit
inductive pW where
 |int (k:IntKind)
 |bool
 |str
 |ptr (e:TypeId)
 |kb (e:TypeId)
 |stru (fs:List (TypeId×Nat×Nat))
 |arr (n:Nat) (e:TypeId)
 |iface
 |map (k v:TypeId)
 |float (k:FloatKind)
 |func
 |other
structure Row where
 k:pW
 size:Nat
 bytes:Nat
 zero:Value
def MP(P:Program)(t:TypeId):pW→Prop
 |.int k=>P.underlying t=some (.int k)
 |.bool=>P.underlying t=some .bool
 |.str=>P.underlying t=some .string
 |.ptr e=>P.underlying t=some (.pointer e)
 |.kb e=>P.underlying t=some (.slice e)
 |.stru fs=>∃F,P.underlying t=some (.struct F)∧F.toList.map (fun f=>(f.type,f.offset,P.cellsOf f.type))=fs
 |.arr n e=>P.underlying t=some (.array n e)
 |.iface=>∃ms,P.underlying t=some (.interface ms)
 |.map k v=>P.underlying t=some (.map k v)
 |.float k=>P.underlying t=some (.float k)
 |.func=>∃a b c,P.underlying t=some (.func a b c)
 |.other=>True
structure Ea(P:Program)(t:TypeId)(r:Row):Prop where
 k:MP P t r.k
 info:(P.info? t).map (fun i=>(i.zero,i.size,i.bytes))=some (some r.zero,r.size,r.bytes)
inductive Ty where
 |leaf
 |node (l:Ty) (t:TypeId) (r:Row) (h:Ty)
 |norm (t:Ty)
def Ty.row:Ty→TypeId→Option Row
 |.leaf,_=>none
 |.node l t r h,x=>match Nat.beq x t with
  |true=>some r
  |false=>match Nat.blt x t with
   |true=>l.row x
   |false=>h.row x
 |.norm t,x=>t.row x
def Ty.Ok(P:Program):Ty→Prop
 |.leaf=>True
 |.node l t r h=>l.Ok P∧Ea P t r∧h.Ok P
 |.norm t=>t.Ok P
theorem Ty.Ok.row{P:Program}{x:TypeId}{r:Row}:∀{T:Ty},T.Ok P→T.row x=some r→Ea P x r
 |.leaf,_,h=>by cases h
 |.node l t r' hi,ok,h=>by
  unfold Ty.row at h
  split at h
  ·rename_i hb;have hb:x=t:=by simpa using hb
   injection h with h
   subst hb;subst h;exact ok.2.1
  ·split at h
   ·exact Ty.Ok.row ok.1 h
   ·exact Ty.Ok.row ok.2.2 h
 |.norm t,ok,h=>Ty.Ok.row (T:=t) ok h
section
variable{P:Program} {t:TypeId} {r:Row}
theorem Ea.parts(h:Ea P t r):∃i,P.info? t=some i∧i.zero=some r.zero∧i.size=r.size∧i.bytes=r.bytes:=info_parts h.info
theorem Ea.bX(h:Ea P t r)(w:World):(sizeOf t).run P w=.ok r.size w:=by
 obtain ⟨i,hi,_,hs,_⟩:=h.parts;simp [sizeOf,typeInfo,hi,hs]
theorem Ea.cells(h:Ea P t r):P.cellsOf t=r.size:=by
 obtain ⟨i,hi,_,hs,_⟩:=h.parts;simp [Program.cellsOf,hi,hs]
theorem Ea.gW(h:Ea P t r)(w:World):(zeroValue t).run P w=.ok r.zero w:=by
 obtain ⟨i,hi,hz,_,_⟩:=h.parts;simp [zeroValue,typeInfo,hi,hz]
def pW.agg:pW→Bool
 |.stru _|.arr _ _=>true
 |_=>false
def pW.known:pW→Bool
 |.other=>false
 |_=>true
theorem Ea.cD(h:Ea P t r)(hk:r.k.known=true)(w:World):(isAgg t).run P w=.ok r.k.agg w:=by
 have h1:=h.k;cases hr:r.k<;>rw [hr]at h1<;>simp only [MP]at h1
 case stru fs=>obtain ⟨F,hF,_⟩:=h1;simp [isAgg,run_underlying hF,pW.agg]
 case iface=>obtain ⟨F,hF⟩:=h1;simp [isAgg,run_underlying hF,pW.agg]
 case func=>obtain ⟨a,b,c,hF⟩:=h1;simp [isAgg,run_underlying hF,pW.agg]
 case other=>rw [hr]at hk;cases hk
 all_goals simp [isAgg,run_underlying h1,pW.agg]
end
def Wc:IntKind→IntKind→Bool
 |.i8,.i8=>true|.i16,.i16=>true|.i32,.i32=>true|.i64,.i64=>true
 |.u8,.u8=>true|.u16,.u16=>true|.u32,.u32=>true|.u64,.u64=>true
 |_,_=>false
theorem Ox{a b:IntKind}(h:Wc a b=true):a=b:=by cases a<;>cases b<;>simp_all [Wc]
def dT(k k':IntKind)(v:Value):Option Value:=match Wc k k' with
 |true=>some v
 |false=>none
theorem kV{k k':IntKind}{v u:Value}(h:dT k k' v=some u):k=k'∧v=u:=by
 unfold dT at h
 split at h
 ·rename_i hk;exact ⟨Ox hk,yR h⟩
 ·cases h
def iv(k:IntKind)(s:Nat):Nat:=min s k.bits
def HV(op:BinOp)(k k':IntKind)(a b:Int):Option Value:=
 match op with
 |.add=>dT k k' (.int k (k.wrap (a+b)))
 |.sub=>dT k k' (.int k (k.wrap (a-b)))
 |.mul=>dT k k' (.int k (k.wrap (a*b)))
 |.and=>dT k k' (.int k (bits .and k a b))
 |.or=>dT k k' (.int k (bits .or k a b))
 |.xor=>dT k k' (.int k (bits .xor k a b))
 |.andNot=>dT k k' (.int k (bits .andNot k a b))
 |.eql=>dT k k' (.bool (a==b))
 |.neq=>dT k k' (.bool (a !=b))
 |.lss=>dT k k' (.bool (decide (a<b)))
 |.leq=>dT k k' (.bool (decide (a≤b)))
 |.gtr=>dT k k' (.bool (decide (a>b)))
 |.geq=>dT k k' (.bool (decide (a≥b)))
 |.shl=>match b with
  |.ofNat s=>some (.int k (k.wrap (a*2^iv k s)))
  |.negSucc _=>none
 |.shr=>match b with
  |.ofNat s=>some (.int k (a.fdiv (2^iv k s)))
  |.negSucc _=>none
 |.quo=>match b with
  |.ofNat 0=>none
  |_=>dT k k' (.int k (k.wrap (a.tdiv b)))
 |.rem=>match b with
  |.ofNat 0=>none
  |_=>dT k k' (.int k (a.tmod b))
def FP(op:BinOp)(a b:ByteArray):Option Value:=
 match op with
 |.eql=>some (.bool (a.toList==b.toList))
 |.neq=>some (.bool !(a.toList==b.toList))
 |.lss=>some (.bool (Op.bytesLess a.toList b.toList))
 |.gtr=>some (.bool !(Op.bytesLess a.toList b.toList||a.toList==b.toList))
 |_=>none
def ID(op:BinOp)(a b:Nat):Option Value:=
 match op with
 |.eql=>some (.bool (FloatKind.f64.format.order a b==some .eq))
 |.neq=>some (.bool (FloatKind.f64.format.order a b !=some .eq))
 |.lss=>some (.bool (FloatKind.f64.format.order a b==some .lt))
 |.leq=>some (.bool (FloatKind.f64.format.order a b==some .lt||FloatKind.f64.format.order a b==some .eq))
 |.gtr=>some (.bool (FloatKind.f64.format.order a b==some .gt))
 |.geq=>some (.bool (FloatKind.f64.format.order a b==some .gt||FloatKind.f64.format.order a b==some .eq))
 |_=>none
def Lf(op:BinOp)(x y:Value):Option Value:=
 match x,y with
 |.int k a,.int k' b=>HV op k k' a b
 |.float .f64 a,.float .f64 b=>ID op a b
 |.string a,.string b=>FP op a b
 |_,_=>none
theorem Bj{P:Program}{op:BinOp}{t:TypeId}{x y v:Value}(h:Lf op x y=some v)(w:World):(binOp op t x y).run P w=.ok v w:=by
 unfold Lf at h
 split at h
 ·rename_i k a k' b;cases op<;>simp only [HV]at h
  case shl=>
   split at h
   ·injection h with h;subst h;simp [binOp,Op.shift,iv];omega
   ·cases h
  case shr=>
   split at h
   ·injection h with h;subst h;simp [binOp,Op.shift,iv];omega
   ·cases h
  case quo=>
   split at h
   ·cases h
   ·rename_i hb;obtain ⟨rfl,rfl⟩:=kV h;simp [binOp,Op.intDiv,show¬b=0 from fun hh=>hb hh]
  case rem=>
   split at h
   ·cases h
   ·rename_i hb;obtain ⟨rfl,rfl⟩:=kV h;simp [binOp,Op.intDiv,show¬b=0 from fun hh=>hb hh]
  all_goals
   obtain ⟨rfl,rfl⟩:=kV h;simp [binOp,Op.intArith,Op.intCmp,Op.intBits,bits]
 ·rename_i a b;cases op<;>simp only [ID]at h<;>first
   |(injection h with h;subst h;simp [binOp,Op.floatCmp])
   |cases h
 ·rename_i a b;cases op<;>simp only [FP]at h<;>first
   |(injection h with h;subst h;simp [binOp,Op.stringOp])
   |cases h
 ·cases h
def IM(T:Ty)(t:TypeId)(a b:Value):Option Bool:=
 match a,b with
 |.bool p,.bool q=>match T.row t with
  |some r=>match r.k with
   |.bool=>some (p==q)
   |_=>none
  |none=>none
 |.slice A _ _,.slice none 0 0=>match T.row t with
  |some r=>match r.k with
   |.kb _=>some A.isNone
   |_=>none
  |none=>none
 |.pointer A,.pointer none=>match T.row t with
  |some r=>match r.k with
   |.ptr _=>some A.isNone
   |_=>none
  |none=>none
 |_,_=>none
theorem sZ{P:Program}{T:Ty}(hT:T.Ok P){t:TypeId}{a b:Value}{q:Bool}(h:IM T t a b=some q)(d:Nat)(w:World):(Op.equalIn (d+1) t a b).run P w=.ok q w:=by
 unfold IM at h
 split at h
 ·rename_i p q'
  split at h
  ·rename_i r hr
   split at h
   ·rename_i hk;have h1:=(hT.row hr).k;rw [hk]at h1
    injection h with h;subst h
    simp [Op.equalIn,run_underlying h1]
   ·cases h
  ·cases h
 ·rename_i A l c
  split at h
  ·rename_i r hr
   split at h
   ·rename_i te hk;have h1:=(hT.row hr).k;rw [hk]at h1
    injection h with h;subst h
    cases A<;>simp [Op.equalIn,run_underlying h1]
   ·cases h
  ·cases h
 ·rename_i A
  split at h
  ·rename_i r hr
   split at h
   ·rename_i te hk;have h1:=(hT.row hr).k;rw [hk]at h1
    injection h with h;subst h
    cases A<;>simp [Op.equalIn,run_underlying h1]
   ·cases h
  ·cases h
 ·cases h
theorem LB{P:Program}{T:Ty}(hT:T.Ok P){t:TypeId}{a b:Value}{q:Bool}(h:IM T t a b=some q)(w:World):(binOp .eql t a b).run P w=.ok (.bool q) w:=by
 have h0:(Op.equal t a b).run P w=.ok q w:=sZ hT h 9999 w;unfold IM at h
 split at h
 ·simp only [binOp];simp [h0]
 ·simp only [binOp];simp [h0]
 ·simp only [binOp];simp [h0]
 ·cases h
theorem Lc{P:Program}{T:Ty}(hT:T.Ok P){t:TypeId}{a b:Value}{q:Bool}(h:IM T t a b=some q)(w:World):(binOp .neq t a b).run P w=.ok (.bool !q) w:=by
 have h0:(Op.equal t a b).run P w=.ok q w:=sZ hT h 9999 w;unfold IM at h
 split at h
 ·simp only [binOp];simp [h0]
 ·simp only [binOp];simp [h0]
 ·simp only [binOp];simp [h0]
 ·cases h
theorem tw{P:Program}{T:Ty}{op:BinOp}{t:TypeId}{x y:Operand}{a b:Value}{q:Bool}(h:IM T t a b=some q)(w:World):(eqGuard op t x y a b).run P w=.ok () w:=by
 unfold IM at h
 split at h
 ·simp [eqGuard]
 ·simp [eqGuard]
 ·simp [eqGuard]
 ·cases h
def Bl:Value→Option (List Value)
 |.agg ⟨l⟩=>some l
 |.tuple _=>none
 |v=>some [v]
def jv:List Value→Nat→List Value→Option (List Value)
 |l,0,[]=>some l
 |_::l,0,v::vs=>match jv l 0 vs with
  |some r=>some (v::r)
  |none=>none
 |c::l,k+1,vs=>match jv l k vs with
  |some r=>some (c::r)
  |none=>none
 |_,_,_=>none
def rS(fs:List (TypeId×Nat×Nat))(e:Env):List (Nat×Operand)→List Value→Option (List Value)
 |[],l=>some l
 |(i,x)::rest,l=>match e.ev x with
  |some v=>match fs[i]?with
   |some (_,off,size)=>match Bl v with
    |some vs=>match Nat.beq vs.length size with
     |true=>match jv l off vs with
      |some l'=>rS fs e rest l'
      |none=>none
     |false=>none
    |none=>none
   |none=>none
  |none=>none
def xk:List (TypeId×Nat×Nat)→Bool
 |[]=>true
 |(_,_,k)::r=>match k with
  |0=>false
  |_+1=>xk r
theorem EM{v:Value}{l:List Value}(h:Bl v=some l):v.cells=l.toArray:=by
 unfold Bl at h
 split at h
 ·injection h with h;subst h;rfl
 ·cases h
 ·rename_i h1 h2
  injection h with h;subst h
  cases v<;>first
   |rfl
   |(rename_i cs;exact absurd rfl (h1 cs.toList))
theorem oh:∀(l:List Value) (k:Nat) (vs r:List Value),jv l k vs=some r→k+vs.length≤l.length∧r=l.take k++vs++l.drop (k+vs.length)
 |l,0,[],r,h=>by simp [jv]at h;subst h;simp
 |[],0,v::vs,r,h=>by simp [jv]at h
 |c::l,0,v::vs,r,h=>by
  unfold jv at h
  split at h
  ·rename_i r' hr
   injection h with h;subst h
   obtain ⟨h1,h2⟩:=oh l 0 vs r' hr;subst h2;refine ⟨by simp at h1 ⊢;omega,?_⟩;simp
  ·cases h
 |[],k+1,vs,r,h=>by simp [jv]at h
 |c::l,k+1,vs,r,h=>by
  unfold jv at h
  split at h
  ·rename_i r' hr
   injection h with h;subst h
   obtain ⟨h1,h2⟩:=oh l k vs r' hr;subst h2;refine ⟨J6,?_⟩;simp [Nat.add_right_comm]
  ·cases h
theorem C4(base:Nat):∀(l:List Value) (j:Nat) (pre suf:List Value),l.length≤suf.length→pre.length=base+j→
  (l.zipIdx j).foldl (fun(cs:Array Value) (c:Value×Nat)=>cs.setIfInBounds (base+c.2) c.1) (pre++suf).toArray=(pre++l++suf.drop l.length).toArray
 |[],j,pre,suf,_,_=>by simp
 |c::l,j,pre,[],h,_=>by simp at h
 |c::l,j,pre,s0::suf,h,hp=>by
  simp only [List.zipIdx_cons,xB];have h1:((pre++s0::suf).toArray.setIfInBounds (base+j) c)=((pre++[c])++suf).toArray:=by
   rw [List.setIfInBounds_toArray];congr 1;rw [←hp];simp
  rw [h1,C4 base l (j+1) (pre++[c]) suf J5 (by simp [hp,Nat.add_assoc])];simp
theorem pw{fs:List (TypeId×Nat×Nat)}{n:Nat}{e:Env}{D:Fr}{a:Act}(hf:Fits n e D a):∀(ps:List (Nat×Operand)) (l r:List Value),rS fs e ps l=some r→
  Instr.fill ((fs.map fun q=>(q.2.1,q.2.2)).toArray[·]?) l.toArray (ps.map fun p=>(p.1,a.eval p.2))=some r.toArray
 |[],l,r,h=>by simp only [rS,yJ]at h;subst h;simp [Instr.fill]
 |(i,x)::ps,l,r,h=>by
  unfold rS at h
  split at h
  ·rename_i v hv
   split at h
   ·rename_i ft off size hq
    split at h
    ·rename_i vs Vn
     split at h
     ·rename_i cz
      split at h
      ·rename_i l' vg;have ih:=pw hf ps l' r h;obtain ⟨h1,h2⟩:=oh l off vs l' vg;have hc:=EM Vn;have hs:vs.length=size:=by simpa using cz
       have A0:(fs.map fun q=>(q.2.1,q.2.2)).toArray[i]?=some (off,size):=by simp [hq]
       simp only [xK,Instr.fill,A0,hf.ev hv];rw [zX (by simp [hc,hs];omega)];rw [←ih]
       congr 1
       rw [hc];have h3:∀z:Array Value,(vs.toArray.zipIdx.foldl (fun cs x=>cs.setIfInBounds (off+x.2) x.1) z)=(vs.zipIdx 0).foldl (fun(cs:Array Value) (c:Value×Nat)=>cs.setIfInBounds (off+c.2) c.1) z:=by
        intro z;rw [←Array.foldl_toList];simp
       rw [h3];have h4:=C4 off vs 0 (l.take off) (l.drop off) J6 J6;rw [yG]at h4;rw [h4,h2];simp
      ·cases h
     ·cases h
    ·cases h
   ·cases h
  ·cases h
theorem pD{P:Program}:∀(F:List Field),xk (F.map fun f=>(f.type,f.offset,P.cellsOf f.type))=true→
  F.mapM (fun f=>(P.info? f.type).map fun i=>(f.offset,i.size))=some ((F.map fun f=>(f.type,f.offset,P.cellsOf f.type)).map fun q=>(q.2.1,q.2.2))
 |[],_=>by simp
 |f::F,h=>by
  simp only [xK,xk]at h
  split at h
  ·cases h
  ·rename_i k hk;have ih:=pD F h;cases hi:P.info? f.type with
   |none=>simp [Program.cellsOf,hi]at hk
   |some i=>simp [hi,ih,Program.cellsOf]
def Ov:Addr→Nat→Addr
 |⟨b,o,none⟩,k=>⟨b,o+k,none⟩
 |a,k=>a.add k
theorem Lb(a:Addr)(k:Nat):Ov a k=a.add k:=by
 obtain ⟨b,o,s⟩:=a;cases s<;>simp [Ov,Addr.add]
def LY:Ty→Addr→Nat→Addr
 |.norm _,a,k=>Ov a k
 |_,a,k=>a.add k
theorem ur(T:Ty)(a:Addr)(k:Nat):LY T a k=a.add k:=by
 cases T<;>simp [LY,Lb]
def pv(T:Ty)(e:Env):Op→Option Value
 |.move x=>e.ev x
 |.assign x=>e.ev x
 |.pick c a b=>match e.ev c with
  |some (.bool true)=>e.ev a
  |some (.bool false)=>e.ev b
  |_=>none
 |.nilCheck x=>match e.ev x with
  |some (.pointer (some p))=>some (.pointer (some p))
  |some (.func (.func f) fi ca)=>some (.func (.func f) fi ca)
  |_=>none
 |.binOp .eql t x (.const .nilIface) _=>match e.ev x with
  |some v=>match T.row t with
   |some r=>match r.k with
    |.iface=>match v with
     |.nilIface=>some (.bool true)
     |.iface _ _=>some (.bool false)
     |_=>none
    |_=>none
   |none=>none
  |none=>none
 |.binOp op t x y _=>match e.ev x with
  |some a=>match e.ev y with
   |some b=>match Lf op a b with
    |some v=>some v
    |none=>match op with
     |.eql=>match IM T t a b with
      |some q=>some (.bool q)
      |none=>none
     |.neq=>match IM T t a b with
      |some q=>some (.bool !q)
      |none=>none
     |_=>none
   |none=>none
  |none=>none
 |.unOp op _ x=>match op,e.ev x with
  |.not,some (.bool b)=>some (.bool !b)
  |.neg,some (.int k a)=>some (.int k (k.wrap (0-a)))
  |.xor,some (.int k a)=>some (.int k (bits .xor k (if k.signed then-1 else k.max) a))
  |_,_=>none
 |.convert s d x=>match e.ev x with
  |some (.int _ a)=>match T.row s with
   |some rs=>match rs.k.known with
    |true=>match T.row d with
     |some r=>match r.k with
      |.int k=>some (.int k (k.wrap a))
      |_=>none
     |none=>none
    |false=>none
   |none=>none
  |_=>none
 |.fieldAddr s x f=>match e.ev x with
  |some (.pointer (some p))=>match T.row s with
   |some r=>match r.k with
    |.stru fs=>match fs[f]?with
     |some (ft,off,_)=>match T.row ft with
      |some qr=>match qr.size with
       |0=>none
       |_+1=>some (.pointer (some (LY T p off)))
      |none=>none
     |none=>none
    |_=>none
   |none=>none
  |_=>none
 |.makeFunc (.func f) first captured=>match e.kj first.toList with
  |some a=>match e.kj captured.toList with
   |some b=>some (.func (.func f) a.toArray b.toArray)
   |none=>none
  |none=>none
 |.makeInterface t x=>match e.ev x with
  |some v=>match T.row t with
   |some r=>match r.k with
    |.iface=>none
    |.other=>none
    |_=>some (.iface t v)
   |none=>none
  |none=>none
 |.extract x i=>match e.ev x with
  |some (.tuple ⟨vs⟩)=>vs[i]?
  |_=>none
 |.build t ⟨parts⟩=>match T.row t with
  |some r=>match r.k with
   |.stru fs=>match r.zero with
    |.agg ⟨z⟩=>match xk fs with
     |true=>match rS fs e parts z with
      |some l=>some (.agg ⟨l⟩)
      |none=>none
     |false=>none
    |_=>none
   |_=>none
  |none=>none
 |.typeAssert x _ t true=>match T.row t with
  |some r=>match r.k with
   |.iface=>none
   |.other=>none
   |_=>match e.ev x with
    |some .nilIface=>some (.tuple #[r.zero,.bool false])
    |some (.iface u v)=>match Nat.beq u t with
     |true=>some (.tuple #[v,.bool true])
     |false=>some (.tuple #[r.zero,.bool false])
    |_=>none
  |none=>none
 |.call ⟨.builtin .len,⟨[x]⟩,⟨[t]⟩⟩=>match e.ev x with
  |some (.slice _ len _)=>match T.row t with
   |some r=>match r.k with
    |.kb _=>some (.int .i64 len)
    |_=>none
   |none=>none
  |some (.string s)=>match T.row t with
   |some r=>match r.k with
    |.str=>some (.int .i64 s.size)
    |_=>none
   |none=>none
  |_=>none
 |.call ⟨.builtin .cap,⟨[x]⟩,⟨[t]⟩⟩=>match e.ev x with
  |some (.slice _ _ c)=>match T.row t with
   |some r=>match r.k with
    |.kb _=>some (.int .i64 c)
    |_=>none
   |none=>none
  |_=>none
 |.call ⟨.builtin .min,⟨[x,y]⟩,_⟩=>match e.ev x with
  |some (.int k a)=>match e.ev y with
   |some (.int _ b)=>some (.int k (if b<a then b else a))
   |_=>none
  |_=>none
 |.call ⟨.builtin .max,⟨[x,y]⟩,_⟩=>match e.ev x with
  |some (.int k a)=>match e.ev y with
   |some (.int _ b)=>some (.int k (if b>a then b else a))
   |_=>none
  |_=>none
 |_=>none
theorem ob{P:Program}{t:TypeId}{ms:Array (String×TypeId)}(h:P.underlying t=some (.interface ms))(d:Nat)(w:World):(Op.equalIn (d+1) t .nilIface .nilIface).run P w=.ok true w:=by
 simp [Op.equalIn,run_underlying h]
theorem og{P:Program}{t u:TypeId}{x:Value}{ms:Array (String×TypeId)}(h:P.underlying t=some (.interface ms))(d:Nat)(w:World):(Op.equalIn (d+1) t (.iface u x) .nilIface).run P w=.ok false w:=by
 simp [Op.equalIn,run_underlying h]
theorem wv{P:Program}{t:TypeId}{ms:Array (String×TypeId)}(h:P.underlying t=some (.interface ms))(w:World):(binOp .eql t .nilIface .nilIface).run P w=.ok (.bool true) w:=by
 have h0:(Op.equal t .nilIface .nilIface).run P w=.ok true w:=ob h 9999 w;simp only [binOp];simp [h0]
theorem v7{P:Program}{t u:TypeId}{x:Value}{ms:Array (String×TypeId)}(h:P.underlying t=some (.interface ms))(w:World):(binOp .eql t (.iface u x) .nilIface).run P w=.ok (.bool false) w:=by
 have h0:(Op.equal t (.iface u x) .nilIface).run P w=.ok false w:=og h 9999 w;simp only [binOp];simp [h0]
theorem r9{P:Program}{T:Ty}(hT:T.Ok P){n:Nat}{e:Env}{D:Fr}{a:Act}(hf:Fits n e D a){o:Oper}{v:Value}(h:pv T e o.op=some v)(w:World):
  (execOp a.eval o).run P w=.ok (.value v) w:=by
 unfold execOp;unfold pv at h
 split at h
 case h_1 x ho=>rw [ho];show Sem.run P (pure (Next.value (a.eval x))) w=_;rw [hf.ev h];rfl
 case h_2 x ho=>rw [ho];show Sem.run P (pure (Next.value (a.eval x))) w=_;rw [hf.ev h];rfl
 case h_3 c x y ho=>
  rw [ho]
  split at h
  ·rename_i hc;simp [hf.ev hc,asBool,hf.ev h]
  ·rename_i hc;simp [hf.ev hc,asBool,hf.ev h]
  ·cases h
 case h_4 x ho=>
  rw [ho]
  split at h
  ·rename_i p hp;injection h with h;subst h;simp [hf.ev hp]
  ·rename_i f fi ca hp;injection h with h;subst h;simp [hf.ev hp]
  ·cases h
 case h_5 t x yt ho=>
  rw [ho]
  split at h
  ·rename_i p hp
   split at h
   ·rename_i r hr
    split at h
    ·rename_i hk;have h1:=(hT.row hr).k;rw [hk]at h1;obtain ⟨ms,XM⟩:=h1
     split at h
     ·injection h with h;subst h
      simp [hf.ev hp,show a.eval (.const .nilIface)=.nilIface from rfl,eqGuard,wv XM]
     ·injection h with h;subst h
      simp [hf.ev hp,show a.eval (.const .nilIface)=.nilIface from rfl,eqGuard,v7 XM]
     ·cases h
    ·cases h
   ·cases h
  ·cases h
 case h_6 op t x y yt dP ho=>
  rw [ho]
  split at h
  ·rename_i p hp
   split at h
   ·rename_i q hq;simp only [hf.ev hp,hf.ev hq]
    split at h
    ·rename_i v' hv
     injection h with h;subst h
     have h1:=Bj (P:=P) (t:=t) hv w;have h2:(eqGuard op t x y p q).run P w=.ok () w:=by
      unfold Lf at hv
      split at hv
      ·simp [eqGuard]
      ·simp [eqGuard]
      ·simp [eqGuard]
      ·cases hv
     simp [h1,h2]
    ·split at h
     ·split at h
      ·rename_i q' pR
       injection h with h;subst h
       simp [LB hT pR,tw pR]
      ·cases h
     ·split at h
      ·rename_i q' pR
       injection h with h;subst h
       simp [Lc hT pR,tw pR]
      ·cases h
     ·cases h
   ·cases h
  ·cases h
 case h_7 op t x ho=>
  rw [ho]
  split at h
  ·rename_i b hb;injection h with h;subst h;simp [hf.ev hb,Op.unary]
  ·rename_i k a' hb;injection h with h;subst h;simp [hf.ev hb,Op.unary,Op.intArith]
  ·rename_i k a' hb;injection h with h;subst h;simp [hf.ev hb,Op.unary,Op.intBits,bits]
  ·cases h
 case h_8 s d x ho=>
  rw [ho]
  split at h
  ·rename_i k0 a' hx
   split at h
   ·rename_i rs Y7
    split at h
    ·rename_i Xq
     split at h
     ·rename_i r hr
      split at h
      ·rename_i k hk
       injection h with h;subst h
       have h1:=(hT.row hr).k;rw [hk]at h1;have h2:∃d',P.underlying s=some d':=by
        have h3:=(hT.row Y7).k;cases Dz:rs.k<;>rw [Dz]at h3<;>simp only [MP]at h3
        case stru fs=>obtain ⟨F,hF,_⟩:=h3;exact ⟨_,hF⟩
        case iface=>obtain ⟨F,hF⟩:=h3;exact ⟨_,hF⟩
        case func=>obtain ⟨_,_,_,hF⟩:=h3;exact ⟨_,hF⟩
        case other=>rw [Dz]at Xq;cases Xq
        all_goals exact ⟨_,h3⟩
       obtain ⟨d',ug⟩:=h2;simp [convert,hf.ev hx,run_underlying h1,run_underlying ug,Conv.intToInt]
      ·cases h
     ·cases h
    ·cases h
   ·cases h
  ·cases h
 case h_9 s x f ho=>
  rw [ho]
  split at h
  ·rename_i p hp
   split at h
   ·rename_i r hr
    split at h
    ·rename_i fs hk
     split at h
     ·rename_i q1 q2 q3 hq
      split at h
      ·rename_i qr YW
       split at h
       ·cases h
       ·rename_i sz cz
        injection h with h;subst h
        have h1:=(hT.row hr).k;rw [hk]at h1;obtain ⟨F,hF,sB⟩:=h1;have pR:(F.toList.map fun f=>(f.type,f.offset,P.cellsOf f.type))[f]?=some (q1,q2,q3):=by rw [sB];exact hq
        rw [xM]at pR;obtain ⟨fl,kd,Fw⟩:=xN.1 pR;have w9:F[f]?=some fl:=by simpa using kd
        simp only [yK]at Fw;obtain ⟨rfl,rfl,rfl⟩:=Fw;have hs:=(hT.row YW).bX w;rw [cz]at hs;simp [Instr.fieldAt,hf.ev hp,run_underlying hF,w9,Instr.sureAddr,fieldPlace,hs,ur]
      ·cases h
     ·cases h
    ·cases h
   ·cases h
  ·cases h
 case h_10 f first captured ho=>
  rw [ho]
  split at h
  ·rename_i x hx
   split at h
   ·rename_i y hy
    injection h with h;subst h
    have h1:first.map a.eval=x.toArray:=xO (by rw [xP];exact hf.kj hx);have h2:captured.map a.eval=y.toArray:=xO (by rw [xP];exact hf.kj hy);simp [Instr.makeFunc,h1,h2]
   ·cases h
  ·cases h
 case h_11 t x ho=>
  rw [ho]
  split at h
  ·rename_i u hu
   split at h
   ·rename_i r hr;have h1:=(hT.row hr).k
    split at h
    ·cases h
    ·cases h
    ·rename_i Ij Qa
     injection h with h;subst h
     cases Dz:r.k<;>rw [Dz]at h1<;>simp only [MP]at h1
     case stru fs=>obtain ⟨F,hF,_⟩:=h1;simp [Instr.makeInterface,hf.ev hu,run_underlying hF]
     case iface=>exact absurd Dz Ij
     case func=>obtain ⟨_,_,_,hF⟩:=h1;simp [Instr.makeInterface,hf.ev hu,run_underlying hF]
     case other=>exact absurd Dz Qa
     all_goals simp [Instr.makeInterface,hf.ev hu,run_underlying h1]
   ·cases h
  ·cases h
 case h_12 x i ho=>
  rw [ho]
  split at h
  ·rename_i vs hx;have Mh:=hf.ev hx;have h':(Array.mk vs)[i]?=some v:=by simpa using h
   simp [Instr.extract,Mh,h']
  ·cases h
 case h_13 t parts ho=>
  rw [ho]
  split at h
  ·rename_i r hr
   split at h
   ·rename_i fs hk
    split at h
    ·rename_i z hz
     split at h
     ·rename_i fh
      split at h
      ·rename_i l hl
       injection h with h;subst h
       obtain ⟨i,hi,hzero,_,_⟩:=(hT.row hr).parts;have h1:=(hT.row hr).k;rw [hk]at h1;obtain ⟨F,hF,sB⟩:=h1;have hb:P.built t (parts.map fun p=>(p.1,a.eval p.2))=some l.toArray:=by
        unfold Program.built;simp only [hi,hF,hzero,hz];have h2:=pD (P:=P) F.toList (by rw [sB];exact fh);rw [sB]at h2;rw [h2];exact pw hf parts z l hl
       have h3:=run_build (P:=P) w t ((Array.mk parts).map fun p=>(p.1,a.eval p.2)) l.toArray (by simpa using hb);show Sem.run P (do pure (Next.value (←Instr.build t ((Array.mk parts).map fun p=>(p.1,a.eval p.2))))) w=_;simp only [Sem.run_bind,h3,Result.andThen_ok,Sem.run_pure]
      ·cases h
     ·cases h
    ·cases h
   ·cases h
  ·cases h
 case h_14 x xt t ho=>
  rw [ho]
  split at h
  ·rename_i r hr;have h1:=(hT.row hr).k
   split at h
   ·cases h
   ·cases h
   ·rename_i Ij Qa;have h2:∃d',P.underlying t=some d'∧(∀ms,d'≠.interface ms):=by
     cases Dz:r.k<;>rw [Dz]at h1<;>simp only [MP]at h1
     case stru fs=>obtain ⟨F,hF,_⟩:=h1;exact ⟨_,hF,YA⟩
     case iface=>exact absurd Dz Ij
     case func=>obtain ⟨_,_,_,hF⟩:=h1;exact ⟨_,hF,YA⟩
     case other=>exact absurd Dz Qa
     all_goals exact ⟨_,h1,YA⟩
    obtain ⟨d',ug,VB⟩:=h2
    split at h
    ·rename_i hx
     injection h with h;subst h
     simp [Instr.typeAssert,hf.ev hx,run_underlying ug,(hT.row hr).gW]
     first
      |done
      |(cases d'<;>simp at VB ⊢)
    ·rename_i u v' hx
     split at h
     ·rename_i Oc;have Oc:u=t:=by simpa using Oc
      subst Oc
      injection h with h;subst h
      simp [Instr.typeAssert,hf.ev hx,run_underlying ug]
      first
       |done
       |(cases d'<;>simp at VB ⊢)
     ·rename_i Oc;have Oc:u≠t:=Nat.ne_of_beq_eq_false Oc
      injection h with h;subst h
      simp [Instr.typeAssert,hf.ev hx,run_underlying ug,(hT.row hr).gW]
      first
       |done
       |(cases d'<;>simp [Oc]at VB ⊢)
    ·cases h
  ·cases h
 case h_15 x t ho=>
  rw [ho]
  split at h
  ·rename_i q len c hx
   split at h
   ·rename_i r hr
    split at h
    ·rename_i el hk;have h1:=(hT.row hr).k;rw [hk]at h1
     injection h with h;subst h
     simp [resolve,invoke,builtin,Builtin.len_,hf.ev hx,run_underlying h1,goInt]
    ·cases h
   ·cases h
  ·rename_i s hx
   split at h
   ·rename_i r hr
    split at h
    ·rename_i hk;have h1:=(hT.row hr).k;rw [hk]at h1
     injection h with h;subst h
     simp [resolve,invoke,builtin,Builtin.len_,hf.ev hx,run_underlying h1,goInt]
    ·cases h
   ·cases h
  ·cases h
 case h_16 x t ho=>
  rw [ho]
  split at h
  ·rename_i q len c hx
   split at h
   ·rename_i r hr
    split at h
    ·rename_i el hk;have h1:=(hT.row hr).k;rw [hk]at h1
     injection h with h;subst h
     simp [resolve,invoke,builtin,Builtin.cap_,hf.ev hx,run_underlying h1,goInt]
    ·cases h
   ·cases h
  ·cases h
 case h_17 x y t ho=>
  rw [ho]
  split at h
  ·rename_i k a' hx
   split at h
   ·rename_i k' b' hy
    injection h with h;subst h
    simp [resolve,invoke,builtin,Builtin.min_,Builtin.min2,hf.ev hx,hf.ev hy]
   ·cases h
  ·cases h
 case h_18 x y t ho=>
  rw [ho]
  split at h
  ·rename_i k a' hx
   split at h
   ·rename_i k' b' hy
    injection h with h;subst h
    simp [resolve,invoke,builtin,Builtin.max_,Builtin.max2,hf.ev hx,hf.ev hy]
   ·cases h
  ·cases h
 case h_19=>cases h
def EV(T:Ty)(ops:Array Oper)(n:Nat):Nat→Env→List Oper→Option (Env×List Oper)
 |0,e,l=>some (e,l)
 |k+1,e,l=>match l with
  |[]=>none
  |o::rest=>match gd ops e o with
   |some true=>match pv T e o.op with
    |some v=>match aQ n o.dst v e with
     |some e'=>EV T ops n k e' rest
     |none=>none
    |none=>none
   |some false=>match aQ n o.dst undef e with
    |some e'=>EV T ops n k e' rest
    |none=>none
   |none=>none
theorem mi{P:Program}{T:Ty}(hT:T.Ok P){ops:Array Oper}{Q:Exit→Act→World→Prop}{n:Nat}{D:Fr}{m:World}:
  ∀(k:Nat) (e:Env) (l:List Oper) (e':Env) (l':List Oper),EV T ops n k e l=some (e',l')→RL P ops Q l' n e' D m→RL P ops Q l n e D m
 |0,e,l,e',l',h,hk=>by
  simp only [EV,yJ,yK]at h;obtain ⟨rfl,rfl⟩:=h;exact hk
 |k+1,e,l,e',l',h,hk=>by
  unfold EV at h
  split at h
  ·cases h
  ·rename_i o rest
   split at h
   ·rename_i hg
    split at h
    ·rename_i v hv
     split at h
     ·rename_i e1 HB;exact RL.value v hg (fun a w hf _=>r9 hT hf hv w) HB (mi hT k e1 rest e' l' h hk)
     ·cases h
    ·cases h
   ·rename_i hg
    split at h
    ·rename_i e1 HB;exact RL.skip hg HB (mi hT k e1 rest e' l' h hk)
    ·cases h
   ·cases h
theorem RL.pure{P:Program}{T:Ty}(hT:T.Ok P)(k:Nat){ops:Array Oper}{Q:Exit→Act→World→Prop}{n:Nat}{e e':Env}{D:Fr}{m:World}{l l':List Oper}
  (h:EV T ops n k e l=some (e',l'))(hk:RL P ops Q l' n e' D m):RL P ops Q l n e D m:=mi hT k e l e' l' h hk
def AB(T:Ty)(ops:Array Oper)(n:Nat):Nat→Env→List Oper→Env×List Oper
 |0,e,l=>(e,l)
 |k+1,e,l=>match l with
  |[]=>(e,[])
  |o::rest=>match gd ops e o with
   |some true=>match pv T e o.op with
    |some v=>match aQ n o.dst v e with
     |some e'=>AB T ops n k e' rest
     |none=>(e,o::rest)
    |none=>(e,o::rest)
   |some false=>match aQ n o.dst undef e with
    |some e'=>AB T ops n k e' rest
    |none=>(e,o::rest)
   |none=>(e,o::rest)
theorem gU{P:Program}{T:Ty}(hT:T.Ok P){ops:Array Oper}{Q:Exit→Act→World→Prop}{n:Nat}{D:Fr}{m:World}:
  ∀(k:Nat) (e:Env) (l:List Oper) (e':Env) (l':List Oper),AB T ops n k e l=(e',l')→RL P ops Q l' n e' D m→RL P ops Q l n e D m
 |0,e,l,e',l',h,hk=>by
  simp only [AB,yK]at h;obtain ⟨rfl,rfl⟩:=h;exact hk
 |k+1,e,l,e',l',h,hk=>by
  unfold AB at h
  split at h
  ·simp only [yK]at h;obtain ⟨rfl,rfl⟩:=h;exact hk
  ·rename_i o rest
   split at h
   ·rename_i hg
    split at h
    ·rename_i v hv
     split at h
     ·rename_i e1 HB;exact RL.value v hg (fun a w hf _=>r9 hT hf hv w) HB (gU hT k e1 rest e' l' h hk)
     ·simp only [yK]at h;obtain ⟨rfl,rfl⟩:=h;exact hk
    ·simp only [yK]at h;obtain ⟨rfl,rfl⟩:=h;exact hk
   ·rename_i hg
    split at h
    ·rename_i e1 HB;exact RL.skip hg HB (gU hT k e1 rest e' l' h hk)
    ·simp only [yK]at h;obtain ⟨rfl,rfl⟩:=h;exact hk
   ·simp only [yK]at h;obtain ⟨rfl,rfl⟩:=h;exact hk
theorem RL.A1{P:Program}{T:Ty}(hT:T.Ok P){ops:Array Oper}{Q:Exit→Act→World→Prop}{n:Nat}{e e':Env}{D:Fr}{m:World}{l l':List Oper}
  (h:AB T ops n 60 e l=(e',l'))(hk:RL P ops Q l' n e' D m):RL P ops Q l n e D m:=gU hT 60 e l e' l' h hk
end Go.Ev
namespace Go.Ids
theorem qm{x:aG}(h1:1≤x.c)(h2:x.c≤9007199254740991)(h3:1≤x.f)(h4:x.t≤9007199254740992)(c k:Nat):x.has c k↔x.c=c∧x.f≤k∧k<x.t:=
 ⟨fun h=>h.2,fun h=>⟨bL.2 ⟨h1,h2,h3,J9,h4⟩,h⟩⟩
def fj(s:aG×List aG)(y:aG):aG×List aG:=
 if s.1.c≠y.c∨y.t≤s.1.f∨s.1.t≤y.f then s else({s.1 with f:=y.t},s.2++[⟨s.1.c,s.1.f,y.f⟩])
def gH(B:List aG)(x:aG)(out:List aG):List aG:=(B.foldl fj (x,out)).2++[(B.foldl fj (x,out)).1]
def FV(A B:List aG):List aG:=A.foldl (fun out x=>gH B x out) []
theorem oZ:∀(B:List aG) (x:aG) (out:List aG),Canon B→1≤x.c→x.c≤9007199254740991→1≤x.f→x.t≤9007199254740992→
  ∀c k,mem (gH B x out) c k↔mem out c k∨(x.has c k∧¬mem B c k)
 |[],x,out,_,_,_,_,_,c,k=>by
  simp only [gH,List.foldl_nil];rw [mem_append,mem_cons];constructor
  ·rintro (h|h|h)
   ·exact .inl h
   ·exact .inr ⟨h,dv⟩
   ·exact absurd h dv
  ·rintro (h|h)
   ·exact .inl h
   ·exact .inr (.inl h.1)
 |y::B,x,out,hB,h1,h2,h3,h4,c,k=>by
  have hy:=bL.1 hB.head;have e:gH (y::B) x out=gH B (fj (x,out) y).1 (fj (x,out) y).2:=rfl;rw [e]
  by_cases hc:x.c≠y.c∨y.t≤x.f∨x.t≤y.f
  ·have:fj (x,out) y=(x,out):=yS hc;rw [this,oZ B x out hB.tail h1 h2 h3 h4,mem_cons];constructor
   ·rintro (h|⟨h,h'⟩)
    ·exact .inl h
    ·refine .inr ⟨h,?_⟩;rintro (hh|hh)
     ·obtain ⟨_,g1,g2,g3⟩:=h;obtain ⟨_,g4,g5,g6⟩:=hh;omega
     ·exact h' hh
   ·rintro (h|⟨h,h'⟩)
    ·exact .inl h
    ·exact .inr ⟨h,fun hh=>h' (.inr hh)⟩
  ·have mH:fj (x,out) y=({x with f:=y.t},out++[⟨x.c,x.f,y.f⟩]):=zX hc;rw [mH,oZ B _ _ hB.tail (by exact h1) (by exact h2) (by show 1≤y.t;omega) (by exact h4),mem_append,mem_cons,mem_cons];have i1:=qm (x:=⟨x.c,x.f,y.f⟩) h1 h2 h3 (by show y.f≤_;omega) c k;have i2:=qm (x:={x with f:=y.t}) h1 h2 (by show 1≤y.t;omega) h4 c k;have i3:=qm h1 h2 h3 h4 c k;have i4:=qm hy.1 hy.2.1 hy.2.2.1 hy.2.2.2.2 c k;simp only at i1 i2;have q7:mem B c k→y.c<c∨(y.c=c∧y.t<k):=fun hm=>by
    obtain ⟨z,hz,g0,g1,g2,g3⟩:=hm;rcases hB.behind hz with g4|⟨g4,g5⟩
    ·exact .inl J9
    ·exact .inr ⟨J9,J9⟩
   rw [i1,i2,i3,i4];constructor
   ·rintro ((h|h|h)|⟨h,h'⟩)
    ·exact .inl h
    ·refine .inr ⟨J9,?_⟩;rintro (hh|hh)
     ·omega
     ·have:=q7 hh;omega
    ·exact absurd h dv
    ·refine .inr ⟨J9,?_⟩;rintro (hh|hh)
     ·omega
     ·exact h' hh
   ·rintro (h|⟨h,h'⟩)
    ·exact .inl (.inl h)
    ·by_cases hk:k<y.f
     ·exact .inl (.inr (.inl J9))
     ·refine .inr ⟨?_,fun hh=>h' (.inr hh)⟩;have:¬(y.c=c∧y.f≤k∧k<y.t):=fun hh=>h' (.inl hh)
      omega
theorem pF(B:List aG)(hB:Canon B):∀(A:List aG) (out:List aG),(∀x∈A,x.right=true)→∀c k,mem (A.foldl (fun out x=>gH B x out) out) c k↔mem out c k∨(mem A c k∧¬mem B c k)
 |[],out,_,c,k=>by
  simp only [List.foldl_nil];exact ⟨.inl,fun h=>h.elim id fun h=>absurd h.1 dv⟩
 |x::A,out,hA,c,k=>by
  have hx:=bL.1 (hA x (zS ..));rw [xB,pF B hB A _ (fun z hz=>hA z (zO _ hz)),oZ B x out hB hx.1 hx.2.1 hx.2.2.1 hx.2.2.2.2,mem_cons];constructor
  ·rintro ((h|h)|h)
   ·exact .inl h
   ·exact .inr ⟨.inl h.1,h.2⟩
   ·exact .inr ⟨.inr h.1,h.2⟩
  ·rintro (h|⟨h|h,h'⟩)
   ·exact .inl (.inl h)
   ·exact .inl (.inr ⟨h,h'⟩)
   ·exact .inr ⟨h,h'⟩
def minus(a b:List aG):List aG:=clean (FV (clean a) (clean b))
theorem oQ(a b:List aG)(c k:Nat):mem (minus a b) c k↔mem a c k∧¬mem b c k:=by
 unfold minus FV;rw [fy,pF _ (dt b) _ _ (dt a).1,fy,fy];exact ⟨fun h=>h.resolve_left dv,.inr⟩
theorem kM(a b:List aG):Canon (minus a b):=dt _
theorem qu:∀(B:List aG) (s:aG×List aG),(B.foldl fj s).2.length≤s.2.length+B.length
 |[],s=>by simp
 |y::B,s=>by
  have:=qu B (fj s y);have h2:(fj s y).2.length≤s.2.length+1:=by unfold fj;split<;>simp
  rw [xB,yF];omega
theorem GG(B:List aG)(x:aG)(out:List aG):(gH B x out).length≤out.length+(B.length+1):=by
 unfold gH;have:=qu B (x,out);simp only [zY,yF,xE]at*;omega
theorem mj:∀(A B:List aG) (out:List aG),(A.foldl (fun out x=>gH B x out) out).length≤out.length+A.length*(B.length+1)
 |[],B,out=>by simp
 |x::A,B,out=>by
  have h1:=mj A B (gH B x out);have h2:=GG B x out;rw [xB,yF,xQ];omega
theorem tQ(a:List aG):minus a []=clean a:=dA (kM _ _) (dt _) fun c k=>by rw [oQ,fy];exact ⟨fun h=>h.1,fun h=>⟨h,dv⟩⟩
def join(a b:List aG):List aG:=clean (a++b)
theorem FB(a b:List aG)(c k:Nat):mem (join a b) c k↔mem a c k∨mem b c k:=by unfold join;rw [fy,mem_append]
theorem Cc(a b:List aG):Canon (join a b):=dt _
structure aK where
 c:Nat
 f:Nat
 t:Nat
 n:Nat
 deriving DecidableEq
def aK.right(x:aK):Bool:=aG.right ⟨x.c,x.f,x.t⟩&&num x.n
theorem aT{x:aK}:x.right=true↔1≤x.c∧x.c≤9007199254740991∧1≤x.f∧x.f<x.t∧x.t≤9007199254740992∧1≤x.n∧x.n≤9007199254740991:=by
 simp [aK.right,aG.right,num,and_assoc]
def aK.at(x:aK)(c k:Nat):Nat:=if x.right=true∧x.c=c∧x.f≤k∧k<x.t then x.n else 0
def ak:List aK→Nat→Nat→Nat
 |[],_,_=>0
 |x::l,c,k=>max (x.at c k) (ak l c k)
theorem cn(a b:List aK)(c k:Nat):ak (a++b) c k=max (ak a c k) (ak b c k):=by
 induction a with
 |nil=>simp [ak]
 |cons x a ih=>simp only [yB,ak,ih];omega
theorem pH{a b:List aK}(h:a.Perm b)(c k:Nat):ak a c k=ak b c k:=by
 induction h with
 |nil=>rfl
 |cons x _ ih=>simp only [ak,ih]
 |swap x y l=>simp only [ak];omega
 |trans _ _ h1 h2=>exact h1.trans h2
theorem sH(l:List aK)(c k:Nat):ak (l.filter aK.right) c k=ak l c k:=by
 induction l with
 |nil=>rfl
 |cons x l ih=>
  rw [List.filter_cons]
  split
  ·simp only [ak,ih]
  ·rename_i h;have:x.at c k=0:=zX (fun hh=>h hh.1);simp only [ak,ih,this];omega
theorem kQ(l:List aK)(c k:Nat):ak l.reverse c k=ak l c k:=pH (List.reverse_perm l) c k
theorem fM{l:List aK}{c k:Nat}(h:∀x∈l,x.at c k=0):ak l c k=0:=by
 induction l with
 |nil=>rfl
 |cons x l ih=>
  have h1:=h x (zS ..);have h2:=ih (fun y hy=>h y (zO _ hy));simp only [ak,h1,h2];rfl
theorem gT:∀{l:List aK} {c k:Nat},ak l c k≠0→∃x∈l,x.at c k=ak l c k
 |[],c,k,h=>absurd rfl h
 |x::l,c,k,h=>by
  simp only [ak]at h ⊢
  by_cases h2:x.at c k≥ak l c k
  ·exact ⟨x,zS ..,J9⟩
  ·obtain ⟨y,hy,h3⟩:=gT (l:=l) (c:=c) (k:=k) J9;exact ⟨y,zO _ hy,J9⟩
theorem oK{x:aK}{c k:Nat}(h:x.at c k≠0):x.right=true∧x.c=c∧x.f≤k∧k<x.t∧x.at c k=x.n:=by
 unfold aK.at at*
 split at h
 ·rename_i hh;exact ⟨hh.1,hh.2.1,hh.2.2.1,hh.2.2.2,by rw [yS hh]⟩
 ·exact absurd rfl h
theorem AT{x:aK}{c k:Nat}(h:x.right=true)(h1:x.c=c)(h2:x.f≤k)(h3:k<x.t):x.at c k=x.n:=yS ⟨h,h1,h2,h3⟩
def aK.Eo(x y:aK):Prop:=x.c<y.c∨(x.c=y.c∧(x.t<y.f∨(x.t=y.f∧x.n≠y.n)))
def bb(l:List aK):Prop:=(∀x∈l,x.right=true)∧l.Pairwise aK.Eo
theorem bb.nil:bb []:=⟨(fun _ h=>by cases h),List.Pairwise.nil⟩
theorem bb.tail{x:aK}{l:List aK}(h:bb (x::l)):bb l:=⟨fun y hy=>h.1 y (zO _ hy),(yZ.1 h.2).2⟩
theorem bb.head{x:aK}{l:List aK}(h:bb (x::l)):x.right=true:=h.1 x (zS ..)
theorem bb.behind{x y:aK}{l:List aK}(h:bb (x::l))(hy:y∈l):x.Eo y:=(yZ.1 h.2).1 y hy
theorem bb.lG{x:aK}{l:List aK}(h:bb (x::l)){c k:Nat}(hk:c<x.c∨(c=x.c∧k<x.t)):ak l c k=0:=by
 refine fM fun y hy=>?_
 rcases xR (y.at c k)with h0|h0
 ·exact h0
 ·obtain ⟨h1,h2,h3,h4,_⟩:=oK (Nat.ne_of_gt h0);exfalso;rcases h.behind hy with h5|⟨h5,h6|⟨h6,_⟩⟩<;>omega
theorem bb.lA{x:aK}{l:List aK}(h:bb (x::l)){k:Nat}(h1:x.f≤k)(h2:k<x.t):ak (x::l) x.c k=x.n:=by
 have e1:=AT (c:=x.c) h.head rfl h1 h2;have e2:=h.lG (c:=x.c) (k:=k) (.inr ⟨rfl,h2⟩);show max (x.at x.c k) (ak l x.c k)=x.n;rw [e1,e2];omega
theorem bb.Ag{x:aK}{l:List aK}(h:bb (x::l)){c k:Nat}(hk:c<x.c∨(c=x.c∧k<x.f)):ak (x::l) c k=0:=by
 have hr:=aT.1 h.head;have e2:=h.lG (c:=c) (k:=k) (by rcases hk with h1|⟨h1,h2⟩;exact .inl h1;exact .inr ⟨h1,J9⟩);have e1:x.at c k=0:=zX (fun hh=>by omega);show max (x.at c k) (ak l c k)=0;rw [e1,e2];rfl
theorem bb.G7{x:aK}{l:List aK}(h:bb (x::l)):ak (x::l) x.c x.t≠x.n:=by
 have hr:=aT.1 h.head;have e1:x.at x.c x.t=0:=zX (fun hh=>by omega);show max (x.at x.c x.t) (ak l x.c x.t)≠x.n;rw [e1];intro hh;have h0:ak l x.c x.t=x.n:=by omega
 obtain ⟨y,hy,h1⟩:=gT (l:=l) (c:=x.c) (k:=x.t) J9;obtain ⟨g1,g2,g3,g4,g5⟩:=oK (x:=y) (c:=x.c) (k:=x.t) J9;rcases h.behind hy with h5|⟨h5,h6|⟨h6,h7⟩⟩
 ·omega
 ·omega
 ·omega
theorem de:∀{a b:List aK},bb a→bb b→(∀c k,ak a c k=ak b c k)→a=b
 |[],[],_,_,_=>rfl
 |[],y::b,_,hb,h=>by
  have hr:=aT.1 hb.head;have h1:=h y.c y.f;rw [hb.lA (yP _) J9]at h1;have:ak [] y.c y.f=0:=rfl;omega
 |x::a,[],ha,_,h=>by
  have hr:=aT.1 ha.head;have h1:=h x.c x.f;rw [ha.lA (yP _) J9]at h1;have:ak [] x.c x.f=0:=rfl;omega
 |x::a,y::b,ha,hb,h=>by
  have hx:=aT.1 ha.head;have hy:=aT.1 hb.head;have h1:=ha.lA (yP x.f) J9;have h2:=hb.lA (yP y.f) J9;have l1:¬(x.c<y.c∨(x.c=y.c∧x.f<y.f)):=fun hh=>by
   have:=hb.Ag (c:=x.c) (k:=x.f) hh;rw [←h,h1]at this;omega
  have l2:¬(y.c<x.c∨(y.c=x.c∧y.f<x.f)):=fun hh=>by
   have:=ha.Ag (c:=y.c) (k:=y.f) hh;rw [h,h2]at this;omega
  have hc:x.c=y.c:=by omega
  have hf:x.f=y.f:=by omega
  have hn:x.n=y.n:=by rw [←h1,←h2,h,hc,hf]
  have ht:x.t=y.t:=by
   rcases Nat.lt_trichotomy x.t y.t with h3|h3|h3
   ·exfalso;have h4:=hb.lA (k:=x.t) J9 h3;have h5:=ha.G7;rw [h,hc,h4]at h5;exact h5 hn.symm
   ·exact h3
   ·exfalso;have h4:=ha.lA (k:=y.t) J9 h3;have h5:=hb.G7;rw [←h,←hc,h4]at h5;exact h5 hn
  have OL:x=y:=by cases x;cases y;simp_all
  subst OL;have px:∀c k,ak a c k=ak b c k:=fun c k=>by
   have h9:=h c k;simp only [ak]at h9
   by_cases h0:x.at c k=0
   ·omega
   ·obtain ⟨_,g2,g3,g4,_⟩:=oK h0;rw [ha.lG (.inr ⟨g2.symm,g4⟩),hb.lG (.inr ⟨g2.symm,g4⟩)]
  rw [de ha.tail hb.tail px]
def ew(l:List aK):Prop:=(∀x∈l,x.right=true)∧l.Pairwise fun x y=>aK.Eo y x
theorem ew.reverse{l:List aK}(h:ew l):bb l.reverse:=⟨fun x hx=>h.1 x (List.mem_reverse.1 hx),List.pairwise_reverse.2 h.2⟩
def tj:List aK→aK→List aK
 |y::r,x=>if y.c=x.c∧y.t=x.f∧y.n=x.n then{y with t:=x.t}::r else x::y::r
 |[],x=>[x]
theorem ik(y:aK)(r:List aK)(x:aK):tj (y::r) x=if y.c=x.c∧y.t=x.f∧y.n=x.n then{y with t:=x.t}::r else x::y::r:=rfl
theorem DL{r:List aK}{x:aK}(h:ew r)(hx:x.right=true)(hle:∀y∈r,y.c<x.c∨(y.c=x.c∧y.t≤x.f)):
  ew (tj r x)∧(∀c k,ak (tj r x) c k=max (ak r c k) (x.at c k))∧∀y∈tj r x,y.c<x.c∨(y.c=x.c∧y.t≤x.t):=by
 have gx:=aT.1 hx;cases r with
 |nil=>
  refine ⟨⟨fun y hy=>?_,by simp [tj]⟩,fun c k=>?_,fun y hy=>?_⟩
  ·have:y=x:=by simpa [tj]using hy
   subst this;exact hx
  ·simp only [tj,ak];omega
  ·have:y=x:=by simpa [tj]using hy
   subst this;exact .inr ⟨rfl,yP _⟩
 |cons y r=>
  have hy:=h.1 y (zS ..);have gy:=aT.1 hy;have Wy:=hle y (zS ..);have hp:=yZ.1 h.2;rw [ik]
  by_cases hc:y.c=x.c∧y.t=x.f∧y.n=x.n
  ·rw [yS hc];have hm:aK.right {y with t:=x.t}=true:=aT.2 ⟨gy.1,gy.2.1,gy.2.2.1,by simp only;omega,by simp only;omega,gy.2.2.2.2.2⟩;refine ⟨⟨fun z hz=>?_,yZ.2 ⟨fun z hz=>hp.1 z hz,hp.2⟩⟩,fun c k=>?_,fun z hz=>?_⟩
   ·rcases yH.1 hz with rfl|hz
    ·exact hm
    ·exact h.1 z (zO _ hz)
   ·have e:aK.at {y with t:=x.t} c k=max (y.at c k) (x.at c k):=by
     unfold aK.at
     by_cases h1:y.c=c∧y.f≤k∧k<y.t
     ·rw [yS (show _∧_ from⟨hm,h1.1,h1.2.1,by simp only;omega⟩),yS ⟨hy,h1⟩,zX (fun hh=>by omega)];simp only;omega
     ·by_cases h2:x.c=c∧x.f≤k∧k<x.t
      ·rw [yS (show _∧_ from⟨hm,by simp only;omega,by simp only;omega,h2.2.2⟩),zX (fun hh=>h1 hh.2),yS ⟨hx,h2⟩];simp only;omega
      ·rw [zX (fun hh=>by simp only at hh;omega),zX (fun hh=>h1 hh.2),zX (fun hh=>h2 hh.2)];rfl
    simp only [ak,e];omega
   ·rcases yH.1 hz with rfl|hz
    ·exact .inr ⟨hc.1,yP _⟩
    ·rcases hle z (zO _ hz)with h1|⟨h1,h2⟩
     ·exact .inl h1
     ·exact .inr ⟨h1,J9⟩
  ·rw [zX hc];have hb:∀z∈y::r,z.Eo x:=fun z hz=>by
    rcases yH.1 hz with rfl|hz
    ·rcases Wy with h1|⟨h1,h2⟩
     ·exact .inl h1
     ·rcases Nat.lt_or_eq_of_le h2 with h3|h3
      ·exact .inr ⟨h1,.inl h3⟩
      ·exact .inr ⟨h1,.inr ⟨h3,fun h4=>hc ⟨h1,h3,h4⟩⟩⟩
    ·rcases hp.1 z hz with h1|⟨h1,h2⟩
     ·rcases Wy with h3|⟨h3,h4⟩
      ·exact .inl J9
      ·exact .inl J9
     ·rcases Wy with h3|⟨h3,h4⟩
      ·exact .inl J9
      ·exact .inr ⟨J9,.inl (by rcases h2 with h2|⟨h2,_⟩<;>omega)⟩
   refine ⟨⟨fun z hz=>?_,yZ.2 ⟨hb,h.2⟩⟩,fun c k=>?_,fun z hz=>?_⟩
   ·rcases yH.1 hz with rfl|hz
    ·exact hx
    ·exact h.1 z hz
   ·simp only [ak];omega
   ·rcases yH.1 hz with rfl|hz
    ·exact .inr ⟨rfl,yP _⟩
    ·rcases hle z hz with h1|⟨h1,h2⟩
     ·exact .inl h1
     ·exact .inr ⟨h1,J9⟩
def dm(u:Nat)(l:List aK):Nat:=l.foldl (fun m x=>min m x.t) u
def fA(l:List aK):Nat:=l.foldl (fun m x=>max m x.n) 0
theorem oY:∀(l:List aK) (u:Nat),dm u l≤u∧(∀x∈l,dm u l≤x.t)∧(dm u l=u∨∃x∈l,dm u l=x.t)
 |[],u=>⟨yP _,(fun _ h=>by cases h),.inl rfl⟩
 |x::l,u=>by
  obtain ⟨h1,h2,h3⟩:=oY l (min u x.t);have e:dm u (x::l)=dm (min u x.t) l:=rfl;rw [e];refine ⟨J9,fun y hy=>?_,?_⟩
  ·rcases yH.1 hy with rfl|hy
   ·omega
   ·exact h2 y hy
  ·rcases h3 with h3|⟨y,hy,h3⟩
   ·by_cases hh:u≤x.t
    ·exact .inl J9
    ·exact .inr ⟨x,zS ..,J9⟩
   ·exact .inr ⟨y,zO _ hy,h3⟩
theorem oD:∀(l:List aK) (m:Nat),l.foldl (fun m x=>max m x.n) m=max m (fA l)
 |[],m=>by simp [fA]
 |x::l,m=>by
  unfold fA;rw [xB,xB,oD l,oD l];omega
theorem tU(x:aK)(l:List aK):fA (x::l)=max x.n (fA l):=by
 unfold fA;rw [xB,oD];unfold fA;omega
theorem Df:∀{l:List aK} {c k:Nat},(∀x∈l,x.right=true∧x.c=c∧x.f≤k∧k<x.t)→ak l c k=fA l
 |[],_,_,_=>rfl
 |x::l,c,k,h=>by
  obtain ⟨h1,h2,h3,h4⟩:=h x (zS ..);have:=Df (l:=l) (c:=c) (k:=k) (fun y hy=>h y (zO _ hy));rw [tU];simp only [ak,AT h1 h2 h3 h4,this]
theorem GY{l:List aK}(h:∀x∈l,x.right=true)(dP:l≠[]):1≤fA l∧fA l≤9007199254740991:=by
 induction l with
 |nil=>exact absurd rfl dP
 |cons x l ih=>
  have hx:=aT.1 (h x (zS ..));rw [tU]
  by_cases hl:l=[]
  ·subst hl;have:fA ([]:List aK)=0:=rfl;omega
  ·have:=ih (fun y hy=>h y (zO _ hy)) hl;omega
structure jS(P:List aK)(c0 at_:Nat)(op out:List aK):Prop where
 told:∀c k,ak P c k=max (ak out c k) (if at_≤k then ak op c k else 0)
 canon:ew out
 opens:∀x∈op,x.right=true∧x.c=c0∧x.f≤at_∧at_<x.t
 behind:∀y∈out,y.c<c0∨(y.c=c0∧y.t≤at_)
theorem w4{op:List aK}{c k to_:Nat}(h:to_≤k):ak op c k=ak (op.filter fun x=>decide (¬x.t≤to_)) c k:=by
 induction op with
 |nil=>rfl
 |cons x l ih=>
  rw [List.filter_cons]
  split
  ·simp only [ak,ih]
  ·rename_i hh;have hh:x.t≤to_:=by simpa using hh
   have:x.at c k=0:=zX (fun h2=>by omega);simp only [ak,ih,this];omega
theorem jS.piece{P op out:List aK}{c0 at_ u:Nat}(h:jS P c0 at_ op out)(dP:op≠[])(hu:at_<u)(OX:u≤9007199254740992):
  at_<dm u op∧dm u op≤u∧jS P c0 (dm u op) (op.filter fun x=>decide (¬x.t≤dm u op)) (tj out ⟨c0,at_,dm u op,fA op⟩):=by
 obtain ⟨g1,g2,g3⟩:=oY op u;have pg:at_<dm u op:=by
  rcases g3 with g3|⟨x,hx,g3⟩
  ·omega
  ·have:=(h.opens x hx).2.2.2;omega
 obtain ⟨x0,Qf⟩:=List.exists_mem_of_ne_nil op dP;have h0:=h.opens x0 Qf;have r0:=aT.1 h0.1;have hn:=GY (fun x hx=>(h.opens x hx).1) dP;have hp:aK.right ⟨c0,at_,dm u op,fA op⟩=true:=aT.2 ⟨by simp only;omega,by simp only;omega,by simp only;omega,pg,by simp only;omega,hn.1,hn.2⟩;obtain ⟨t1,t2,t3⟩:=DL h.canon hp h.behind;refine ⟨pg,g1,⟨fun c k=>?_,t1,fun x hx=>?_,t3⟩⟩
 ·rw [h.told c k,t2]
  by_cases hk:at_≤k
  ·rw [yS hk]
   by_cases sL:dm u op≤k
   ·rw [yS sL,←w4 sL];have:aK.at ⟨c0,at_,dm u op,fA op⟩ c k=0:=zX (fun hh=>by have:=hh.2.2.2;simp only at this;omega);rw [this];omega
   ·rw [zX sL]
    by_cases hc:c0=c
    ·have e1:=AT (x:=⟨c0,at_,dm u op,fA op⟩) hp hc hk (by simp only;omega);have e2:ak op c k=fA op:=Df (fun x hx=>by
      obtain ⟨q1,q2,q3,q4⟩:=h.opens x hx;have:=g2 x hx;exact ⟨q1,J9,J9,J9⟩)
     rw [e1,e2];simp only;omega
    ·have e1:aK.at ⟨c0,at_,dm u op,fA op⟩ c k=0:=zX (fun hh=>hc hh.2.1);have e2:ak op c k=0:=fM (fun x hx=>zX (fun hh=>by have:=(h.opens x hx).2.1;omega));rw [e1,e2];omega
  ·rw [zX hk,zX J9];have:aK.at ⟨c0,at_,dm u op,fA op⟩ c k=0:=zX (fun hh=>by have:=hh.2.2.1;simp only at this;omega);rw [this];omega
 ·obtain ⟨sN,mH⟩:=yY.1 hx;obtain ⟨q1,q2,q3,q4⟩:=h.opens x sN;have mH:¬x.t≤dm u op:=xS mH;exact ⟨q1,q2,J9,J9⟩
theorem jS.more{P op out:List aK}{c0 at_:Nat}{x:aK}(h:jS P c0 at_ op out)(hx:x.right=true)(hc:op=[]∨c0=x.c∧at_=x.f)(hb:c0<x.c∨c0=x.c∧at_≤x.f):jS (P++[x]) x.c x.f (op++[x]) out:=by
 have gx:=aT.1 hx;refine ⟨fun c k=>?_,h.canon,fun y hy=>?_,fun y hy=>?_⟩
 ·rw [cn,h.told c k,cn];have e:ak [x] c k=x.at c k:=by simp [ak]
  rw [e];rcases hc with rfl|⟨rfl,rfl⟩
  ·have e0:ak [] c k=0:=rfl;rw [e0,ite_self]
   by_cases hk:x.f≤k
   ·rw [yS hk];omega
   ·rw [zX hk];have:x.at c k=0:=zX (fun hh=>hk hh.2.2.1);rw [this];omega
  ·by_cases hk:x.f≤k
   ·rw [yS hk,yS hk];omega
   ·rw [zX hk,zX hk];have:x.at x.c k=0:=zX (fun hh=>hk hh.2.2.1);have e2:x.at c k=0:=zX (fun hh=>hk hh.2.2.1);rw [e2];omega
 ·rcases yL.1 hy with hy|hy
  ·rcases hc with rfl|⟨h1,h2⟩
   ·cases hy
   ·obtain ⟨q1,q2,q3,q4⟩:=h.opens y hy;exact ⟨q1,J9,J9,J9⟩
  ·have:y=x:=by simpa using hy
   subst this;exact ⟨hx,rfl,yP _,J9⟩
 ·rcases h.behind y hy with h1|⟨h1,h2⟩
  ·rcases hb with h3|⟨h3,_⟩<;>exact .inl J9
  ·rcases hb with h3|⟨h3,h4⟩
   ·exact .inl J9
   ·exact .inr ⟨J9,J9⟩
theorem jS.done{P out:List aK}{c0 at_:Nat}(h:jS P c0 at_ [] out):bb out.reverse∧∀c k,ak out.reverse c k=ak P c k:=by
 refine ⟨h.canon.reverse,fun c k=>?_⟩;rw [kQ,h.told c k];have e0:ak [] c k=0:=rfl;rw [e0,ite_self];omega
theorem jS.start(c0 at_:Nat):jS [] c0 at_ [] []:=⟨fun c k=>by simp [ak],⟨(fun _ h=>by cases h),List.Pairwise.nil⟩,(fun _ h=>by cases h),(fun _ h=>by cases h)⟩
end Go.Ids
namespace Go.AncP
section
variable{α:Type} [DecidableEq α]
def P5(l:List α)(a:Option α)(b:Bool):Option Nat:=match a with
 |none=>some (if b then l.length else 0)
 |some x=>if x∈l then some (l.idxOf x+if b then 1 else 0)else none
def rH(p:α→Bool)(l:List α)(g:Nat):Nat:=((l.take g).filter p).length
def mk(v:List α)(k:Nat)(b:Bool):Option (Option α×Bool):=
 if v.length<k then none else if b then(match k with
  |0=>some (none,false)
  |k+1=>some (v[k]?,true))else if k<v.length then some (v[k]?,false)else some (none,true)
theorem Ae{l:List α}{x:α}{g:Nat}(hn:l.Nodup)(hx:x∈l):x∈l.take g↔l.idxOf x<g:=by
 refine ⟨fun h=>?_,fun h=>?_⟩
 ·obtain ⟨i,hi,e⟩:=xT h;rw [yA]at hi;rw [xH]at e;have:=hn.idxOf_getElem i J9;rw [e]at this;omega
 ·have hl:=List.idxOf_lt_length_of_mem hx;have h1:=List.getElem_idxOf hl;exact xU (i:=l.idxOf x) (by rw [xV,yS h,xW hl,h1])
omit[DecidableEq α]in
theorem pj(p:α→Bool)(l:List α)(g:Nat):(l.filter p).take (rH p l g)=(l.take g).filter p:=by
 have h:l.filter p=(l.take g).filter p++(l.drop g).filter p:=by rw [←xX,yG]
 rw [h,rH,xY]
omit[DecidableEq α]in
theorem uz(p:α→Bool)(l:List α)(g:Nat):rH p l g≤(l.filter p).length:=by
 have:=xZ List.length (pj p l g);rw [yA,←rH]at this;omega
omit[DecidableEq α]in
theorem Hl(p:α→Bool)(l:List α){g g':Nat}(h:g≤g'):rH p l g≤rH p l g':=
 ((List.take_sublist_take_left h).filter p).length_le
theorem G6{p:α→Bool}{l:List α}{g k:Nat}{x:α}(hn:l.Nodup)(hk:(l.filter p)[k]?=some x):k<rH p l g↔l.idxOf x<g:=by
 have hx:=xU hk;have qa:=(yY.1 hx);rw [←Ae hn qa.1];have WX:(l.filter p).Nodup:=hn.filter p;have hi:(l.filter p).idxOf x=k:=by
  obtain ⟨h1,h2⟩:=yV.1 hk;rw [←h2];exact WX.idxOf_getElem k h1
 rw [←hi,←Ae WX hx,pj,yY];simp [qa.2]
theorem DN{p:α→Bool}{l:List α}{k:Nat}{x:α}(hn:l.Nodup)(hk:(l.filter p)[k]?=some x):rH p l (l.idxOf x)=k∧rH p l (l.idxOf x+1)=k+1:=by
 have hle:=uz p l (l.idxOf x);have ZF:=uz p l (l.idxOf x+1);have hm:=Hl p l (wA (l.idxOf x));have zp:=(yV.1 hk).1;have h1:=(G6 (g:=l.idxOf x) hn hk);have h2:=(G6 (g:=l.idxOf x+1) hn hk);have qa:=(yY.1 (xU hk)).1;have bo:rH p l (l.idxOf x+1)≤rH p l (l.idxOf x)+1:=by
  have hl:=List.idxOf_lt_length_of_mem qa;unfold rH;rw [wB,xX,zY];have:=xD p (l[l.idxOf x]?.toList);rw [xW hl]at*;simp at this ⊢;omega
 omega
theorem Nr{p:α→Bool}{l:List α}{k:Nat}{b:Bool}(hn:l.Nodup)(hk:k≤(l.filter p).length):∃i c g,mk (l.filter p) k b=some (i,c)∧P5 l i c=some g∧rH p l g=k∧(∀x,i=some x→x∈l):=by
 unfold mk;rw [zX J9];cases b with
 |true=>
  cases k with
  |zero=>exact ⟨none,false,0,rfl,rfl,by simp [rH],fun x h=>by cases h⟩
  |succ k=>
   have hx:=xW (show k<(l.filter p).length by omega);have hm:=(yY.1 (xU hx)).1;refine ⟨_,true,_,rfl,?_,(DN hn hx).2,fun x h=>?_⟩
   ·rw [hx];simp [P5,hm]
   ·rw [hx]at h;cases h;exact hm
 |false=>
  by_cases h:k<(l.filter p).length
  ·have hx:=xW h;have hm:=(yY.1 (xU hx)).1;refine ⟨some (l.filter p)[k],false,_,by simp only [wC,wE,yS h,hx],by simp [P5,hm],(DN hn hx).1,fun x h=>?_⟩;cases h;exact hm
  ·refine ⟨none,true,l.length,by simp only [wC,wE,zX h],rfl,?_,fun x h=>by cases h⟩;rw [rH,wF];omega
end
end Go.AncP
namespace Go.Ev
open Go.RowKit
def iF(a b:Nat):Prop:=a≤b∧(a=0→b=0)
theorem iF.refl(a:Nat):iF a a:=⟨yP _,fun h=>h⟩
theorem iF.trans{a b c:Nat}(h:iF a b)(k:iF b c):iF a c:=⟨wG h.1 k.1,fun hh=>k.2 (h.2 hh)⟩
def low(m w:World):World:={w with drawn:=if m.drawn=0 then 0 else w.drawn}
theorem cJ(m w:World):(low m w).heap=w.heap:=rfl
theorem bS.low(m w:World):bS (low m w) w:=⟨rfl,rfl,rfl,rfl,by show(if _ then _ else _)≤_;split<;>omega⟩
theorem iF.low{m w:World}(h:m.drawn≤w.drawn):iF m.drawn (low m w).drawn:=by
 show iF m.drawn (if _ then _ else _)
 split
 ·rename_i h0;rw [h0];exact iF.refl 0
 ·rename_i h0;exact ⟨h,fun hh=>absurd hh h0⟩
structure gD(m:World)(b:Nat)(o:Obj)(m':World):Prop where
 os:m'.os=m.os
 tape:m'.tape=m.tape
 output:m'.output=m.output
 here:m'.heap[b]?=some o
 ej:∀k,k≠b→m'.heap[k]?=m.heap[k]?
 size:m'.heap.size=max m.heap.size (b+1)
 drawn:iF m.drawn m'.drawn
structure Ext(m:World)(M:List Nat)(m':World):Prop where
 os:m'.os=m.os
 tape:m'.tape=m.tape
 output:m'.output=m.output
 size:m.heap.size≤m'.heap.size
 ej:∀k,k<m.heap.size→k∉M→m'.heap[k]?=m.heap[k]?
 drawn:iF m.drawn m'.drawn
def bw(m:World)(b:Nat)(t:TypeId)(cs:List Value):Prop:=m.heap[b]?=some (.cells cs.toArray t (0,0))
section
variable{m m' m'' w:World} {M M':List Nat} {b:Nat} {o:Obj} {t:TypeId} {cs:List Value}
theorem Ext.refl(m:World)(M:List Nat):Ext m M m:=⟨rfl,rfl,rfl,yP _,fun _ _ _=>rfl,iF.refl _⟩
theorem Ext.mono(h:Ext m M m')(hM:∀k∈M,k<m.heap.size→k∈M'):Ext m M' m':=⟨h.os,h.tape,h.output,h.size,fun k hk hn=>h.ej k hk fun hm=>hn (hM k hm hk),h.drawn⟩
theorem Ext.trans(h:Ext m M m')(h':Ext m' M' m'')(hM:∀k∈M',k∈M∨m.heap.size≤k):Ext m M m'':=
 ⟨h'.os.trans h.os,h'.tape.trans h.tape,h'.output.trans h.output,wG h.size h'.size,fun k hk hn=>
  (h'.ej k (wH hk h.size) fun hm=>by rcases hM k hm with h1|h1;exact hn h1;omega).trans (h.ej k hk hn),h.drawn.trans h'.drawn⟩
theorem Ext.cell(h:Ext m M m'){a:Addr}{v:Value}(hn:a.block∉M)(hc:m.cell? a=some v):m'.cell? a=some v:=
 (World.cell?_of_block (h.ej a.block (World.block_lt_of_cell? m a hc) hn)).trans hc
theorem gD.ext(h:gD m b o m'):Ext m [b] m':=⟨h.os,h.tape,h.output,by rw [h.size];omega,fun k _ hn=>h.ej k (by simpa using hn),h.drawn⟩
theorem gD.new(h:gD m b o m')(hb:m.heap.size≤b):Ext m [] m':=⟨h.os,h.tape,h.output,by rw [h.size];omega,fun k hk _=>h.ej k J9,h.drawn⟩
theorem bw.lt(h:bw m b t cs):b<m.heap.size:=(wI.1 h).1
theorem bw.cell(h:bw m b t cs)(i:Nat){v:Value}(hv:cs[i]?=some v):m.cell? ⟨b,i,none⟩=some v:=by
 unfold bw at h;simp [World.cell?,h,hv]
theorem bw.ext(h:bw m b t cs)(hE:Ext m M m')(hn:b∉M):bw m' b t cs:=(hE.ej b h.lt hn).trans h
theorem bw.ej(h:bw m b t cs){b':Nat}(hC:gD m b' o m')(hn:b≠b'):bw m' b t cs:=(hC.ej b hn).trans h
theorem gD.fc(h:gD m b (.cells cs.toArray t (0,0)) m'):bw m' b t cs:=h.here
theorem gD.alloc(m:World)(o:Obj):gD m m.heap.size o (m.alloc o):=
 ⟨rfl,rfl,rfl,heap_alloc_new m o,fun k hk=>by
  rcases xA k m.heap.size with h|h
  ·exact Below.heap_alloc m o k h
  ·show(m.heap.push o)[k]?=m.heap[k]?;rw [Array.getElem?_eq_none J6,Array.getElem?_eq_none h],YA,iF.refl _⟩
theorem bS.size(h:bS m w):w.heap.size=m.heap.size:=by rw [h.heap]
theorem fC(h:m.heap[b]?=some (.cells cs.toArray t (0,0)))(cs':List Value):gD m b (.cells cs'.toArray t (0,0)) (m.setRow b cs'.toArray):=by
 refine ⟨rfl,rfl,rfl,setRow_heap m b cs.toArray cs'.toArray t (0,0) h,fun k hk=>setRow_other m b k _ hk,?_,iF.refl _⟩;have:=(wI.1 h).1;simp [World.setRow];omega
theorem bS.setRow{w:World}(h:bS m w)(b:Nat)(c:Array Value):bS (m.setRow b c) (w.setRow b c):=⟨by simp [World.setRow,h.heap],h.os,h.output,h.tape,h.drawn⟩
end
def Sl(m:World)(M:List Nat)(sz:Nat)(v:Value)(xs:List Value):Prop:=
 ∃(A:Option Addr) (n c:Nat),v=.slice A n c∧n≤c∧c≤maxLen∧xs.length=n*sz∧(A=none→c=0)∧
  (0<n→∃ad,A=some ad∧ad.block∉M∧∀j u,xs[j]?=some u→m.cell? (ad.add j)=some u)
section
variable{m m':World} {M M':List Nat} {sz:Nat} {v:Value} {xs:List Value}
theorem Sl.nil(m:World)(M:List Nat)(sz:Nat):Sl m M sz (.slice none 0 0) []:=⟨none,0,0,rfl,yP _,yI _,YA,fun _=>rfl,fun h=>absurd h J9⟩
theorem block_add(a:Addr)(n:Nat):(a.add n).block=a.block:=by unfold Addr.add;split<;>rfl
theorem add_add(a:Addr)(i j:Nat):(a.add i).add j=a.add (i+j):=by
 unfold Addr.add
 by_cases hi:i=0<;>by_cases hj:j=0<;>simp [hi,hj,Nat.add_assoc]
theorem av(b o i:Nat):(⟨b,o,none⟩:Addr).add i=⟨b,o+i,none⟩:=by unfold Addr.add;split<;>simp_all
theorem Sl.ext(h:Sl m M sz v xs)(hE:Ext m M m')(hM:∀k∈M',k∈M∨m.heap.size≤k)(cz:0<sz):Sl m' M' sz v xs:=by
 obtain ⟨A,n,c,hv,ya,hc,hl,hA,hr⟩:=h;refine ⟨A,n,c,hv,ya,hc,hl,hA,fun hn=>?_⟩;obtain ⟨ad,iH,hb,bN⟩:=hr hn;have h0:0<xs.length:=by rw [hl];exact Nat.mul_pos hn cz
 have aM:ad.block<m.heap.size:=by
  have:=World.block_lt_of_cell? m _ (bN 0 _ (xW h0))
  rwa [block_add]at this
 refine ⟨ad,iH,fun hk=>by rcases hM _ hk with h1|h1;exact hb h1;omega,fun j u hu=>hE.cell (by rw [block_add];exact hb) (bN j u hu)⟩
theorem Sl.less(h:Sl m M sz v xs)(hM:∀k∈M',k∈M∨m.heap.size≤k)(cz:0<sz):Sl m M' sz v xs:=h.ext (Ext.refl m M) hM cz
theorem Sl.jF{b:Nat}{t:TypeId}{cs:List Value}{n c:Nat}(h:bw m b t cs)(hb:b∉M)(hl:n*sz≤cs.length)(ya:n≤c)(hc:c≤maxLen):Sl m M sz (.slice (some ⟨b,0,none⟩) n c) (cs.take (n*sz)):=
 ⟨_,n,c,rfl,ya,hc,J6,fun h=>(by cases h),fun _=>⟨_,rfl,hb,fun j u hu=>by
  rw [av];rw [xV]at hu
  split at hu
  ·exact h.cell _ J2
  ·cases hu⟩⟩
end
section
variable{P:Program} {T:Ty} {ops:Array Oper} {Q:Exit→Act→World→Prop} {l rest:List Oper} {n:Nat} {e e':Env} {D:Fr} {m:World}
 {d:Option Tmp} {x y:Operand} {t ty:TypeId} {pos:String} {aft:Array Edge} {g:Option (Nat×Bool)} {p:Addr} {v:Value} {r:Row}
def Ty.plain(T:Ty)(t:TypeId):Bool:=match T.row t with
 |some r=>match r.k.known with
  |true=>match r.k.agg with
   |true=>false
   |false=>match r.size with
    |1=>true
    |_=>false
  |false=>false
 |none=>false
theorem Ty.fu{T:Ty}(h:T.plain t=true):∃r,T.row t=some r∧r.k.known=true∧r.k.agg=false∧r.size=1:=by
 unfold Ty.plain at h
 split at h
 ·rename_i r hr
  split at h
  ·rename_i hk
   split at h
   ·cases h
   ·rename_i ha
    split at h
    ·rename_i hs;exact ⟨r,hr,hk,ha,hs⟩
    ·cases h
  ·cases h
 ·cases h
def Ty.jB(T:Ty)(t:TypeId):Option Nat:=match T.row t with
 |some r=>match r.k.agg with
  |true=>some r.size
  |false=>none
 |none=>none
theorem Ty.ec{T:Ty}{k:Nat}(h:T.jB t=some k):∃r,T.row t=some r∧r.k.agg=true∧r.size=k:=by
 unfold Ty.jB at h
 split at h
 ·rename_i r hr
  split at h
  ·rename_i ha;exact ⟨r,hr,ha,yR h⟩
  ·cases h
 ·cases h
theorem pW.cT{k:pW}(h:k.agg=true):k.known=true:=by cases k<;>simp_all [pW.agg,pW.known]
theorem RL.load(hT:T.Ok P)(hg:gd ops e ⟨d,.load t x,ty,pos,aft,g⟩=some true)(hx:e.ev x=some (.pointer (some p)))(ht:T.plain t=true)
  (hc:m.cell? p=some v)(hp:aQ n d v e=some e')(h:RL P ops Q rest n e' D m):RL P ops Q (⟨d,.load t x,ty,pos,aft,g⟩::rest) n e D m:=by
 obtain ⟨r,hr,hk,ha,_⟩:=Ty.fu ht;refine RL.value v hg (fun a w hf hs=>?_) hp h;have h1:=(hT.row hr).cD hk w;rw [ha]at h1;simp [execOp,hf.ev hx,Instr.loadAt,Instr.sureAddr,loadVar,h1,hs.cell,hc]
theorem RL.aJ(hT:T.Ok P)(vs:List Value)(hg:gd ops e ⟨d,.load t x,ty,pos,aft,g⟩=some true)(hx:e.ev x=some (.pointer (some p)))(ht:T.jB t=some vs.length)
  (hc:∀j u,vs[j]?=some u→m.cell? (p.add j)=some u)(hp:aQ n d (.agg vs.toArray) e=some e')(h:RL P ops Q rest n e' D m):RL P ops Q (⟨d,.load t x,ty,pos,aft,g⟩::rest) n e D m:=by
 obtain ⟨r,hr,ha,cz⟩:=Ty.ec ht;refine RL.value _ hg (fun a w hf hs=>?_) hp h;have h1:=(hT.row hr).cD (pW.cT ha) w;rw [ha]at h1;have h2:=(hT.row hr).bX w;rw [cz]at h2;have h3:=run_loadCells_list (P:=P) w p vs (fun j u hu=>(hs.cell _).trans (hc j u hu));simp [execOp,hf.ev hx,Instr.loadAt,Instr.sureAddr,loadVar,h1,h2,h3]
theorem xd{v:Value}(h:v.oneCell'=true):v.cells=#[v]:=by cases v<;>simp_all [Value.cells,Value.oneCell']
theorem RL.store(hT:T.Ok P){b i:Nat}{tb:TypeId}{cs:List Value}(hB:bw m b tb cs)(hi:i<cs.length)(hg:gd ops e ⟨d,.store t x y,ty,pos,aft,g⟩=some true)
  (hx:e.ev x=some (.pointer (some ⟨b,i,none⟩)))(hy:e.ev y=some v)(ht:T.plain t=true)(h1:v.oneCell'=true)(hp:aQ n d undef e=some e')
  (h:∀m',gD m b (.cells (cs.set i v).toArray tb (0,0)) m'→RL P ops Q rest n e' D m'):RL P ops Q (⟨d,.store t x y,ty,pos,aft,g⟩::rest) n e D m:=by
 obtain ⟨r,hr,hk,ha,cz⟩:=Ty.fu ht;refine RL.Cy (m.setRow b (cs.set i v).toArray) hg (fun a w hf hs=>?_) hp (h _ (fC hB _));have h2:=(hT.row hr).bX w;rw [cz]at h2;have hw:w.heap[b]?=some (.cells cs.toArray tb (0,0)):=by rw [hs.heap];exact hB
 have h3:=run_storeCells_at P b i tb [v] 0 cs.toArray w hw J6 (fun u hu=>by simp at hu;subst hu;exact h1);refine ⟨w.setRow b (cs.set i v).toArray,?_,hs.setRow b _⟩;have h4:(cs.take (i+0)++[v]++cs.drop (i+0+[v].length))=cs.set i v:=by
  rw [List.set_eq_take_append_cons_drop,yS hi];simp
 rw [show(cs.toArray.toList.take (i+0)++[v]++cs.toArray.toList.drop (i+0+[v].length)).toArray=(cs.set i v).toArray by rw [←h4]]at h3;simp [execOp,hf.ev hx,hf.ev hy,Instr.storeAt,Instr.sureAddr,storeVar,h2,xd h1,h3]
theorem RL.bF(hT:T.Ok P){b i k:Nat}{tb:TypeId}{cs vs:List Value}(hB:bw m b tb cs)(hg:gd ops e ⟨d,.store t x y,ty,pos,aft,g⟩=some true)
  (hx:e.ev x=some (.pointer (some ⟨b,i,none⟩)))(hy:e.ev y=some (.agg vs.toArray))(ht:T.jB t=some k)(hk:vs.length=k)(hi:i+k≤cs.length)(h1:∀v∈vs,v.oneCell'=true)(hp:aQ n d undef e=some e')
  (h:∀m',gD m b (.cells (cs.take i++vs++cs.drop (i+k)).toArray tb (0,0)) m'→RL P ops Q rest n e' D m'):RL P ops Q (⟨d,.store t x y,ty,pos,aft,g⟩::rest) n e D m:=by
 obtain ⟨r,hr,ha,cz⟩:=Ty.ec ht;subst hk;refine RL.Cy (m.setRow b (cs.take i++vs++cs.drop (i+vs.length)).toArray) hg (fun a w hf hs=>?_) hp (h _ (fC hB _));have h2:=(hT.row hr).bX w;rw [cz]at h2;have hw:w.heap[b]?=some (.cells cs.toArray tb (0,0)):=by rw [hs.heap];exact hB
 have h3:=run_storeCells_at P b i tb vs 0 cs.toArray w hw J6 h1;refine ⟨w.setRow b (cs.take i++vs++cs.drop (i+vs.length)).toArray,?_,hs.setRow b _⟩;simp only [wJ]at h3;simp [execOp,hf.ev hx,hf.ev hy,Instr.storeAt,Instr.sureAddr,storeVar,h2,Value.cells];simp only [wM]at h3;rw [h3];rfl
theorem RL.alloc(hT:T.Ok P)(hr:T.row t=some r)(hg:gd ops e ⟨d,.alloc t,ty,pos,aft,g⟩=some true)
  (h:∀b m',b=m.heap.size→gD m b (.cells r.zero.cells t (0,0)) m'→∃e',aQ n d (.pointer (some ⟨b,0,none⟩)) e=some e'∧RL P ops Q rest n e' D m'):RL P ops Q (⟨d,.alloc t,ty,pos,aft,g⟩::rest) n e D m:=by
 obtain ⟨e',hp,hk⟩:=h m.heap.size _ rfl (gD.alloc m _);refine RL.fX _ _ hg (fun a w hf hs=>⟨_,?_,hs.alloc _⟩) hp hk;simp [execOp,Instr.alloc,(hT.row hr).gW,newVar,newRow,hs.size]
theorem RL.box(hx:e.ev x=some v)(hg:gd ops e ⟨d,.box t x,ty,pos,aft,g⟩=some true)
  (h:∀b m',b=m.heap.size→gD m b (.cells v.cells t (0,0)) m'→∃e',aQ n d (.pointer (some ⟨b,0,none⟩)) e=some e'∧RL P ops Q rest n e' D m'):RL P ops Q (⟨d,.box t x,ty,pos,aft,g⟩::rest) n e D m:=by
 obtain ⟨e',hp,hk⟩:=h m.heap.size _ rfl (gD.alloc m _);refine RL.fX _ _ hg (fun a w hf hs=>⟨_,?_,hs.alloc _⟩) hp hk;simp [execOp,Instr.box,hf.ev hx,newVar,newRow,hs.size]
theorem nu{f:FuncId}(hc:dq P f)(args:Array Value)(w:World):(callFunc f args).run P w=.ok (.enter f args) w:=by
 obtain ⟨fn,hf,hn,hb⟩:=hc;simp only [callFunc,Sem.run_bind,run_program,Result.andThen_ok,hf,hn,hb,wC,wE,Sem.run_pure]
theorem Ie{f:FuncId}{fo:Operand}{xs:Array Operand}{ts:Array TypeId}{fi ca:Array Value}{vs:List Value}{a:Act}(hf:Fits n e D a)(hc:dq P f)
  (nk:e.ev fo=some (.func (.func f) fi ca))(fI:e.kj xs.toList=some vs)(w:World):
  (execOp a.eval ⟨d,.call ⟨.value fo,xs,ts⟩,ty,pos,aft,g⟩).run P w=.ok (.enter f (fi.toList++vs++ca.toList).toArray) w:=by
 have h1:xs.map a.eval=vs.toArray:=xO (by rw [xP];exact hf.kj fI);simp [execOp,resolve,hf.ev nk,Deferred.ofValue,invoke,h1,nu hc]
theorem RL.call{f:FuncId}{fo:Operand}{xs:Array Operand}{ts:Array TypeId}{fi ca:List Value}{vs al:List Value}{post:Value→World→Prop}
  (hg:gd ops e ⟨d,.call ⟨.value fo,xs,ts⟩,ty,pos,aft,g⟩=some true)
  (nk:e.ev fo=some (.func (.func f) fi.toArray ca.toArray))(fI:e.kj xs.toList=some vs)(has:fi++vs++ca=al)(hc:dg P f al m post)
  (h:∀v m',post v m'→∃e',aQ n d v e=some e'∧RL P ops Q rest n e' D m'):RL P ops Q (⟨d,.call ⟨.value fo,xs,ts⟩,ty,pos,aft,g⟩::rest) n e D m:=by
 subst has;refine RL.run hg (fun _ hh=>by cases hh) fun a w hf hs=>?_
 rw [Ie hf hc.1 nk fI w];refine ⟨(fun hh=>by cases hh),Calls.fr D _ ((hc.2 w hs).mono fun ed w' ⟨m',ud,v,he,QZ⟩=>?_)⟩;subst he;obtain ⟨e',hp,hk⟩:=h v m' QZ;exact hk _ w' (hf.put hp) ud
theorem RL.indexAddr(hT:T.Ok P){te:TypeId}{ad:Addr}{len cap k:Nat}{j:Int}{kk:IntKind}{rt:Row}(dD:T.row t=some rt)(hk:rt.k=.kb te)(hr:T.row te=some r)
  (hg:gd ops e ⟨d,.indexAddr t x y,ty,pos,aft,g⟩=some true)(hx:e.ev x=some (.slice (some ad) len cap))(hy:e.ev y=some (.int kk j))(hj:j=(k:Int))(aM:k<len)
  (hp:aQ n d (.pointer (some (ad.add (k*r.size)))) e=some e')(h:RL P ops Q rest n e' D m):RL P ops Q (⟨d,.indexAddr t x y,ty,pos,aft,g⟩::rest) n e D m:=by
 subst hj;have hu:=(hT.row dD).k;rw [hk]at hu;refine RL.value _ hg (fun a w hf hs=>?_) hp h;simp [execOp,hf.ev hx,hf.ev hy,Instr.indexAt,asIntOf,run_underlying hu,(hT.row hr).bX,aM]
end
section
variable{P:Program} {T:Ty} {ops:Array Oper} {Q:Exit→Act→World→Prop} {rest:List Oper} {n:Nat} {e e':Env} {D:Fr} {m:World}
 {d:Option Tmp} {x y:Operand} {t ty ty1:TypeId} {pos pos1:String} {aft aft1:Array Edge} {v:Value} {r:Row}
def uo(x:Operand)(d1:Tmp):Bool:=match x with
 |.tmp k=>match Nat.beq k d1 with
  |true=>false
  |false=>true
 |_=>true
theorem Nh{x:Operand}{d1:Tmp}{u:Value}(h:uo x d1=true):Env.ev ((d1,u)::e) x=e.ev x:=by
 cases x with
 |tmp k=>
  unfold uo at h;simp only at h
  split at h
  ·cases h
  ·rename_i hb;have hb:=Nat.ne_of_beq_eq_false hb;have V8:Nat.beq d1 k=false:=by
    cases hq:Nat.beq d1 k with
    |false=>rfl
    |true=>exact absurd (Nat.eq_of_beq_eq_true hq).symm hb
   simp [Env.ev,Env.get,V8]
 |_=>rfl
end
end Go.Ev
namespace Go.Proofs.YtgpgladbdoimdaaGreatDoor
open Go.Ev
def Um(P:Program):Option TypeDesc→Option pW
 |some (.int k)=>some (.int k)
 |some .bool=>some .bool
 |some .string=>some .str
 |some (.pointer e)=>some (.ptr e)
 |some (.slice e)=>some (.kb e)
 |some (.struct F)=>some (.stru (F.toList.map fun f=>(f.type,f.offset,P.cellsOf f.type)))
 |some (.array n e)=>some (.arr n e)
 |some (.interface _)=>some .iface
 |some (.map k v)=>some (.map k v)
 |some (.float k)=>some (.float k)
 |some (.func _ _ _)=>some .func
 |_=>none
theorem N7{P:Program}{t:TypeId}{k:pW}(h:Um P (P.underlying t)=some k):MP P t k:=by
 cases hu:P.underlying t with
 |none=>rw [hu]at h;cases h
 |some d=>
  rw [hu]at h;cases d<;>simp only [Um,yJ,reduceCtorEq]at h<;>subst h<;>simp [MP,hu]
def Xw(P:Program)(t:TypeId):Option Row:=(Um P (P.underlying t)).bind fun k=>(P.info? t).bind fun i=>i.zero.map fun z=>⟨k,i.size,i.bytes,z⟩
theorem O6{P:Program}{t:TypeId}{r:Row}(h:Xw P t=some r):Ea P t r:=by
 obtain ⟨k,hk,h⟩:=Option.bind_eq_some_iff.1 h;obtain ⟨i,hi,h⟩:=Option.bind_eq_some_iff.1 h;obtain ⟨z,hz,rfl⟩:=xN.1 h;exact ⟨N7 hk,by rw [hi];simp [hz]⟩
def TW(P:Program):Ty→Option Ty
 |.leaf=>some .leaf
 |.node l t _ h=>(TW P l).bind fun a=>(Xw P t).bind fun r=>(TW P h).map fun b=>.node a t r b
 |.norm t=>(TW P t).map .norm
theorem wb{P:Program}:∀{t s:Ty},TW P t=some s→s.Ok P
 |.leaf,_,h=>by cases h;trivial
 |.node l t _ hi,s,h=>by
  obtain ⟨a,ha,h⟩:=Option.bind_eq_some_iff.1 h;obtain ⟨r,hr,h⟩:=Option.bind_eq_some_iff.1 h;obtain ⟨b,hb,rfl⟩:=xN.1 h;exact ⟨wb ha,O6 hr,wb hb⟩
 |.norm t,s,h=>by
  obtain ⟨a,ha,rfl⟩:=xN.1 h;exact (wb ha:a.Ok P)
abbrev aX:Row:=⟨.func,1,8,.nilFunc⟩
abbrev TZ:Row:=⟨.int .i64,1,8,.int .i64 0⟩
abbrev Tv:Row:=⟨.int .u8,1,1,.int .u8 0⟩
abbrev Tt:Row:=⟨.int .u64,1,8,.int .u64 0⟩
abbrev TM:Row:=⟨.stru [(67,0,1)],1,8,.agg #[.int .i64 0]⟩
abbrev Ug:Row:=⟨.str,1,16,.string ⟨#[]⟩⟩
abbrev WH:Row:=⟨.int .i32,1,4,.int .i32 0⟩
abbrev Va:Row:=⟨.stru [(28,0,1),(28,1,1)],2,16,.agg #[.int .u64 0,.int .u64 0]⟩
def T:Ty:=.node (.node (.node (.node (.node (.node (.node (.node (.node .leaf 1 aX .leaf) 2 TZ .leaf) 3 TZ (.node (.node .leaf 4 ⟨.bool,1,1,.bool false⟩ .leaf) 5 Tv .leaf)) 6 Tv (.node (.node (.node .leaf 7 ⟨.stru [(2,0,1),(3,1,1),(4,2,1),(6,3,1)],4,24,.agg #[.int .i64 0,.int .i64 0,.bool false,.int .u8 0]⟩ .leaf) 8 ⟨.stru [(2,0,1),(3,1,1),(4,2,1),(6,3,1)],4,24,.agg #[.int .i64 0,.int .i64 0,.bool false,.int .u8 0]⟩ .leaf) 9 Ug (.node .leaf 10 Ug .leaf))) 11 Ug (.node (.node (.node (.node .leaf 12 Tt .leaf) 13 ⟨.stru [(9,0,1),(12,1,1)],2,24,.agg #[.string ⟨#[]⟩,.int .u64 0]⟩ .leaf) 14 ⟨.stru [(9,0,1),(12,1,1)],2,24,.agg #[.string ⟨#[]⟩,.int .u64 0]⟩ (.node .leaf 15 ⟨.ptr 334,1,8,.pointer none⟩ .leaf)) 16 ⟨.ptr 337,1,8,.pointer none⟩ (.node (.node (.node .leaf 17 ⟨.ptr 345,1,8,.pointer none⟩ .leaf) 18 ⟨.stru [(17,0,1)],1,8,.agg #[.pointer none]⟩ .leaf) 19 ⟨.stru [(17,0,1)],1,8,.agg #[.pointer none]⟩ (.node .leaf 20 ⟨.iface,1,16,.nilIface⟩ .leaf)))) 21 WH (.node (.node (.node (.node (.node .leaf 22 ⟨.kb 65,1,24,.slice none 0 0⟩ .leaf) 23 aX .leaf) 24 ⟨.ptr 147,1,8,.pointer none⟩ (.node (.node .leaf 25 ⟨.ptr 50,1,8,.pointer none⟩ .leaf) 27 aX .leaf)) 28 Tt (.node (.node (.node .leaf 29 Va .leaf) 30 Va .leaf) 31 ⟨.stru [(30,0,2),(4,2,1)],3,24,.agg #[.int .u64 0,.int .u64 0,.bool false]⟩ (.node .leaf 32 ⟨.stru [(30,0,2),(4,2,1)],3,24,.agg #[.int .u64 0,.int .u64 0,.bool false]⟩ .leaf))) 34 aX (.node (.node (.node (.node .leaf 35 aX .leaf) 36 aX .leaf) 37 ⟨.kb 30,1,24,.slice none 0 0⟩ (.node .leaf 38 aX .leaf)) 40 aX (.node (.node (.node .leaf 41 aX .leaf) 42 aX .leaf) 43 ⟨.kb 55,1,24,.slice none 0 0⟩ (.node .leaf 44 ⟨.kb 193,1,24,.slice none 0 0⟩ .leaf))))) 45 ⟨.kb 122,1,24,.slice none 0 0⟩ (.node (.node (.node (.node (.node (.node .leaf 46 ⟨.kb 167,1,24,.slice none 0 0⟩ .leaf) 47 ⟨.ptr 162,1,8,.pointer none⟩ .leaf) 48 ⟨.ptr 134,1,8,.pointer none⟩ (.node (.node .leaf 49 ⟨.stru [(43,0,1),(44,1,1),(45,2,1),(46,3,1),(47,4,1),(48,5,1),(43,6,1),(46,7,1),(43,8,1)],9,184,.agg #[.slice none 0 0,.slice none 0 0,.slice none 0 0,.slice none 0 0,.pointer none,.pointer none,.slice none 0 0,.slice none 0 0,.slice none 0 0]⟩ .leaf) 50 ⟨.stru [(43,0,1),(44,1,1),(45,2,1),(46,3,1),(47,4,1),(48,5,1),(43,6,1),(46,7,1),(43,8,1)],9,184,.agg #[.slice none 0 0,.slice none 0 0,.slice none 0 0,.slice none 0 0,.pointer none,.pointer none,.slice none 0 0,.slice none 0 0,.slice none 0 0]⟩ .leaf)) 51 ⟨.float .f64,1,8,.float .f64 0⟩ (.node (.node (.node .leaf 52 ⟨.stru [(3,0,1),(2,1,1),(51,2,1),(9,3,1)],4,40,.agg #[.int .i64 0,.int .i64 0,.float .f64 0,.string ⟨#[]⟩]⟩ .leaf) 53 ⟨.stru [(3,0,1),(2,1,1),(51,2,1),(9,3,1)],4,40,.agg #[.int .i64 0,.int .i64 0,.float .f64 0,.string ⟨#[]⟩]⟩ .leaf) 54 ⟨.stru [(30,0,2),(3,2,1),(28,3,1),(30,4,2),(30,6,2),(9,8,1),(53,9,4),(9,13,1),(30,14,2),(32,16,3),(32,19,3)],22,200,.agg #[.int .u64 0,.int .u64 0,.int .i64 0,.int .u64 0,.int .u64 0,.int .u64 0,.int .u64 0,.int .u64 0,.string ⟨#[]⟩,.int .i64 0,.int .i64 0,.float .f64 0,.string ⟨#[]⟩,.string ⟨#[]⟩,.int .u64 0,.int .u64 0,.int .u64 0,.int .u64 0,.bool false,.int .u64 0,.int .u64 0,.bool false]⟩ (.node .leaf 55 ⟨.stru [(30,0,2),(3,2,1),(28,3,1),(30,4,2),(30,6,2),(9,8,1),(53,9,4),(9,13,1),(30,14,2),(32,16,3),(32,19,3)],22,200,.agg #[.int .u64 0,.int .u64 0,.int .i64 0,.int .u64 0,.int .u64 0,.int .u64 0,.int .u64 0,.int .u64 0,.string ⟨#[]⟩,.int .i64 0,.int .i64 0,.float .f64 0,.string ⟨#[]⟩,.string ⟨#[]⟩,.int .u64 0,.int .u64 0,.int .u64 0,.int .u64 0,.bool false,.int .u64 0,.int .u64 0,.bool false]⟩ .leaf))) 56 aX (.node (.node (.node (.node .leaf 57 ⟨.stru [(43,0,1),(45,1,1)],2,48,.agg #[.slice none 0 0,.slice none 0 0]⟩ .leaf) 58 ⟨.stru [(43,0,1),(45,1,1)],2,48,.agg #[.slice none 0 0,.slice none 0 0]⟩ .leaf) 60 aX (.node .leaf 61 ⟨.kb 9,1,24,.slice none 0 0⟩ .leaf)) 62 ⟨.stru [(3,0,1),(3,1,1),(3,2,1),(9,3,1),(53,4,4),(9,8,1),(61,9,1)],10,120,.agg #[.int .i64 0,.int .i64 0,.int .i64 0,.string ⟨#[]⟩,.int .i64 0,.int .i64 0,.float .f64 0,.string ⟨#[]⟩,.string ⟨#[]⟩,.slice none 0 0]⟩ (.node (.node (.node .leaf 63 ⟨.stru [(3,0,1),(3,1,1),(3,2,1),(9,3,1),(53,4,4),(9,8,1),(61,9,1)],10,120,.agg #[.int .i64 0,.int .i64 0,.int .i64 0,.string ⟨#[]⟩,.int .i64 0,.int .i64 0,.float .f64 0,.string ⟨#[]⟩,.string ⟨#[]⟩,.slice none 0 0]⟩ .leaf) 64 aX .leaf) 65 ⟨.int .u32,1,4,.int .u32 0⟩ (.node .leaf 66 aX .leaf)))) 67 TZ (.node (.node (.node (.node (.node .leaf 69 aX .leaf) 70 aX .leaf) 71 aX (.node .leaf 72 aX .leaf)) 73 ⟨.kb 5,1,24,.slice none 0 0⟩ (.node (.node (.node .leaf 74 aX .leaf) 75 ⟨.stru [(73,0,1)],1,24,.agg #[.slice none 0 0]⟩ .leaf) 76 ⟨.stru [(73,0,1)],1,24,.agg #[.slice none 0 0]⟩ (.node .leaf 77 aX .leaf))) 78 ⟨.ptr 76,1,8,.pointer none⟩ (.node (.node (.node (.node .leaf 79 aX .leaf) 80 ⟨.ptr 153,1,8,.pointer none⟩ .leaf) 81 aX (.node .leaf 82 aX .leaf)) 83 aX (.node (.node (.node .leaf 84 aX .leaf) 85 aX .leaf) 86 aX (.node .leaf 87 aX .leaf)))))) 88 ⟨.ptr 90,1,8,.pointer none⟩ (.node (.node (.node (.node (.node (.node (.node .leaf 89 ⟨.stru [(73,0,1),(3,1,1)],2,32,.agg #[.slice none 0 0,.int .i64 0]⟩ .leaf) 90 ⟨.stru [(73,0,1),(3,1,1)],2,32,.agg #[.slice none 0 0,.int .i64 0]⟩ .leaf) 91 aX (.node (.node .leaf 92 aX .leaf) 93 aX .leaf)) 94 aX (.node (.node (.node .leaf 95 ⟨.kb 58,1,24,.slice none 0 0⟩ .leaf) 96 ⟨.kb 25,1,24,.slice none 0 0⟩ .leaf) 98 aX (.node .leaf 99 aX .leaf))) 100 ⟨.stru [(30,0,2),(30,2,2),(30,4,2)],6,48,.agg #[.int .u64 0,.int .u64 0,.int .u64 0,.int .u64 0,.int .u64 0,.int .u64 0]⟩ (.node (.node (.node (.node .leaf 101 ⟨.stru [(30,0,2),(30,2,2),(30,4,2)],6,48,.agg #[.int .u64 0,.int .u64 0,.int .u64 0,.int .u64 0,.int .u64 0,.int .u64 0]⟩ .leaf) 103 aX .leaf) 104 aX (.node .leaf 105 ⟨.ptr 175,1,8,.pointer none⟩ .leaf)) 106 aX (.node (.node (.node .leaf 107 aX .leaf) 108 aX .leaf) 109 aX (.node .leaf 110 aX .leaf)))) 111 aX (.node (.node (.node (.node (.node .leaf 112 aX .leaf) 113 aX .leaf) 114 aX (.node (.node .leaf 116 aX .leaf) 117 aX .leaf)) 118 aX (.node (.node (.node .leaf 119 aX .leaf) 120 aX .leaf) 121 ⟨.stru [(28,0,1),(28,1,1),(28,2,1),(28,3,1)],4,32,.agg #[.int .u64 0,.int .u64 0,.int .u64 0,.int .u64 0]⟩ (.node .leaf 122 ⟨.stru [(28,0,1),(28,1,1),(28,2,1),(28,3,1)],4,32,.agg #[.int .u64 0,.int .u64 0,.int .u64 0,.int .u64 0]⟩ .leaf))) 123 aX (.node (.node (.node (.node .leaf 124 aX .leaf) 126 aX .leaf) 127 Tt (.node .leaf 128 ⟨.kb 53,1,24,.slice none 0 0⟩ .leaf)) 129 aX (.node (.node (.node .leaf 130 aX .leaf) 131 aX .leaf) 132 aX (.node .leaf 133 ⟨.stru [(43,0,1),(46,1,1)],2,48,.agg #[.slice none 0 0,.slice none 0 0]⟩ .leaf))))) 134 ⟨.stru [(43,0,1),(46,1,1)],2,48,.agg #[.slice none 0 0,.slice none 0 0]⟩ (.node (.node (.node (.node (.node (.node .leaf 136 aX .leaf) 137 aX .leaf) 138 aX (.node (.node .leaf 139 aX .leaf) 140 aX .leaf)) 141 ⟨.ptr 213,1,8,.pointer none⟩ (.node (.node (.node .leaf 142 ⟨.map 28 28,1,8,.map none⟩ .leaf) 143 ⟨.map 30 55,1,8,.map none⟩ .leaf) 144 ⟨.map 30 267,1,8,.map none⟩ (.node .leaf 145 ⟨.ptr 208,1,8,.pointer none⟩ .leaf))) 146 ⟨.stru [(141,0,1),(142,1,1),(45,2,1),(46,3,1),(143,4,1),(46,5,1),(105,6,1),(144,7,1),(43,8,1),(145,9,1),(46,10,1),(28,11,1)],12,176,.agg #[.pointer none,.map none,.slice none 0 0,.slice none 0 0,.map none,.slice none 0 0,.pointer none,.map none,.slice none 0 0,.pointer none,.slice none 0 0,.int .u64 0]⟩ (.node (.node (.node (.node .leaf 147 ⟨.stru [(141,0,1),(142,1,1),(45,2,1),(46,3,1),(143,4,1),(46,5,1),(105,6,1),(144,7,1),(43,8,1),(145,9,1),(46,10,1),(28,11,1)],12,176,.agg #[.pointer none,.map none,.slice none 0 0,.slice none 0 0,.map none,.slice none 0 0,.pointer none,.map none,.slice none 0 0,.pointer none,.slice none 0 0,.int .u64 0]⟩ .leaf) 148 aX .leaf) 149 aX (.node .leaf 150 aX .leaf)) 151 aX (.node (.node (.node .leaf 152 ⟨.stru [(73,0,1),(67,1,1)],2,32,.agg #[.slice none 0 0,.int .i64 0]⟩ .leaf) 153 ⟨.stru [(73,0,1),(67,1,1)],2,32,.agg #[.slice none 0 0,.int .i64 0]⟩ .leaf) 154 aX (.node .leaf 155 aX .leaf)))) 156 aX (.node (.node (.node (.node (.node .leaf 157 aX .leaf) 158 ⟨.kb 3,1,24,.slice none 0 0⟩ .leaf) 159 aX (.node .leaf 160 ⟨.kb 164,1,24,.slice none 0 0⟩ .leaf)) 161 ⟨.stru [(160,0,1),(158,1,1),(158,2,1)],3,72,.agg #[.slice none 0 0,.slice none 0 0,.slice none 0 0]⟩ (.node (.node (.node .leaf 162 ⟨.stru [(160,0,1),(158,1,1),(158,2,1)],3,72,.agg #[.slice none 0 0,.slice none 0 0,.slice none 0 0]⟩ .leaf) 163 ⟨.stru [(101,0,6),(3,6,1),(4,7,1),(158,8,1),(158,9,1)],10,112,.agg #[.int .u64 0,.int .u64 0,.int .u64 0,.int .u64 0,.int .u64 0,.int .u64 0,.int .i64 0,.bool false,.slice none 0 0,.slice none 0 0]⟩ .leaf) 164 ⟨.stru [(101,0,6),(3,6,1),(4,7,1),(158,8,1),(158,9,1)],10,112,.agg #[.int .u64 0,.int .u64 0,.int .u64 0,.int .u64 0,.int .u64 0,.int .u64 0,.int .i64 0,.bool false,.slice none 0 0,.slice none 0 0]⟩ (.node .leaf 165 aX .leaf))) 166 ⟨.stru [(28,0,1),(28,1,1),(28,2,1)],3,24,.agg #[.int .u64 0,.int .u64 0,.int .u64 0]⟩ (.node (.node (.node (.node .leaf 167 ⟨.stru [(28,0,1),(28,1,1),(28,2,1)],3,24,.agg #[.int .u64 0,.int .u64 0,.int .u64 0]⟩ .leaf) 168 aX .leaf) 169 aX (.node .leaf 170 aX .leaf)) 171 ⟨.map 30 176,1,8,.map none⟩ (.node (.node (.node .leaf 172 ⟨.kb 176,1,24,.slice none 0 0⟩ .leaf) 173 ⟨.map 30 3,1,8,.map none⟩ .leaf) 174 ⟨.stru [(171,0,1),(172,1,1),(172,2,1),(173,3,1),(4,4,1)],5,72,.agg #[.map none,.slice none 0 0,.slice none 0 0,.map none,.bool false]⟩ (.node .leaf 175 ⟨.stru [(171,0,1),(172,1,1),(172,2,1),(173,3,1),(4,4,1)],5,72,.agg #[.map none,.slice none 0 0,.slice none 0 0,.map none,.bool false]⟩ .leaf))))))) 176 ⟨.ptr 178,1,8,.pointer none⟩ (.node (.node (.node (.node (.node (.node (.node (.node .leaf 177 ⟨.stru [(101,0,6),(176,6,1),(172,7,1),(172,8,1),(3,9,1)],10,112,.agg #[.int .u64 0,.int .u64 0,.int .u64 0,.int .u64 0,.int .u64 0,.int .u64 0,.pointer none,.slice none 0 0,.slice none 0 0,.int .i64 0]⟩ .leaf) 178 ⟨.stru [(101,0,6),(176,6,1),(172,7,1),(172,8,1),(3,9,1)],10,112,.agg #[.int .u64 0,.int .u64 0,.int .u64 0,.int .u64 0,.int .u64 0,.int .u64 0,.pointer none,.slice none 0 0,.slice none 0 0,.int .i64 0]⟩ .leaf) 179 aX (.node (.node .leaf 180 aX .leaf) 181 aX .leaf)) 182 ⟨.kb 21,1,24,.slice none 0 0⟩ (.node (.node (.node .leaf 184 aX .leaf) 185 aX .leaf) 186 aX (.node .leaf 188 aX .leaf))) 189 aX (.node (.node (.node (.node .leaf 190 aX .leaf) 191 aX .leaf) 192 aX (.node .leaf 193 Va .leaf)) 194 aX (.node (.node (.node .leaf 195 aX .leaf) 196 aX .leaf) 197 aX (.node .leaf 198 aX .leaf)))) 199 TM (.node (.node (.node (.node (.node .leaf 200 TM .leaf) 201 aX .leaf) 202 aX (.node (.node .leaf 203 aX .leaf) 204 aX .leaf)) 205 aX (.node (.node (.node .leaf 206 ⟨.map 30 285,1,8,.map none⟩ .leaf) 207 ⟨.stru [(143,0,1),(206,1,1),(46,2,1)],3,40,.agg #[.map none,.map none,.slice none 0 0]⟩ .leaf) 208 ⟨.stru [(143,0,1),(206,1,1),(46,2,1)],3,40,.agg #[.map none,.map none,.slice none 0 0]⟩ (.node .leaf 209 aX .leaf))) 210 aX (.node (.node (.node (.node .leaf 211 ⟨.map 28 43,1,8,.map none⟩ .leaf) 212 ⟨.stru [(211,0,1),(43,1,1),(46,2,1)],3,56,.agg #[.map none,.slice none 0 0,.slice none 0 0]⟩ .leaf) 213 ⟨.stru [(211,0,1),(43,1,1),(46,2,1)],3,56,.agg #[.map none,.slice none 0 0,.slice none 0 0]⟩ (.node .leaf 214 ⟨.map 176 176,1,8,.map none⟩ .leaf)) 215 aX (.node (.node (.node .leaf 216 aX .leaf) 217 aX .leaf) 219 aX (.node .leaf 220 ⟨.kb 28,1,24,.slice none 0 0⟩ .leaf))))) 221 aX (.node (.node (.node (.node (.node (.node .leaf 222 aX .leaf) 223 aX .leaf) 224 aX (.node (.node .leaf 225 aX .leaf) 226 aX .leaf)) 227 aX (.node (.node (.node .leaf 228 aX .leaf) 229 aX .leaf) 230 aX (.node .leaf 231 aX .leaf))) 232 aX (.node (.node (.node (.node .leaf 233 aX .leaf) 234 aX .leaf) 235 aX (.node .leaf 236 aX .leaf)) 237 aX (.node (.node (.node .leaf 238 aX .leaf) 239 aX .leaf) 240 aX (.node .leaf 241 aX .leaf)))) 242 ⟨.kb 45,1,24,.slice none 0 0⟩ (.node (.node (.node (.node (.node .leaf 243 aX .leaf) 244 aX .leaf) 245 aX (.node .leaf 246 aX .leaf)) 247 aX (.node (.node (.node .leaf 248 aX .leaf) 249 aX .leaf) 250 aX (.node .leaf 251 aX .leaf))) 252 aX (.node (.node (.node (.node .leaf 253 aX .leaf) 254 aX .leaf) 255 aX (.node .leaf 256 aX .leaf)) 257 aX (.node (.node (.node .leaf 258 aX .leaf) 259 aX .leaf) 260 aX (.node .leaf 261 aX .leaf)))))) 262 ⟨.kb 46,1,24,.slice none 0 0⟩ (.node (.node (.node (.node (.node (.node (.node .leaf 263 aX .leaf) 264 aX .leaf) 265 ⟨.kb 347,1,24,.slice none 0 0⟩ (.node (.node .leaf 266 ⟨.stru [(9,0,1),(4,1,1),(53,2,4),(265,6,1)],7,88,.agg #[.string ⟨#[]⟩,.bool false,.int .i64 0,.int .i64 0,.float .f64 0,.string ⟨#[]⟩,.slice none 0 0]⟩ .leaf) 267 ⟨.stru [(9,0,1),(4,1,1),(53,2,4),(265,6,1)],7,88,.agg #[.string ⟨#[]⟩,.bool false,.int .i64 0,.int .i64 0,.float .f64 0,.string ⟨#[]⟩,.slice none 0 0]⟩ .leaf)) 268 aX (.node (.node (.node .leaf 269 aX .leaf) 270 aX .leaf) 271 aX (.node .leaf 272 aX .leaf))) 273 aX (.node (.node (.node (.node .leaf 274 aX .leaf) 275 TM .leaf) 276 TM (.node .leaf 277 aX .leaf)) 278 aX (.node (.node (.node .leaf 279 aX .leaf) 280 aX .leaf) 281 aX (.node .leaf 282 aX .leaf)))) 283 aX (.node (.node (.node (.node (.node .leaf 284 aX .leaf) 285 ⟨.map 9 43,1,8,.map none⟩ .leaf) 286 aX (.node (.node .leaf 287 TZ .leaf) 289 aX .leaf)) 290 aX (.node (.node (.node .leaf 291 aX .leaf) 292 aX .leaf) 293 aX (.node .leaf 294 aX .leaf))) 295 aX (.node (.node (.node (.node .leaf 296 aX .leaf) 297 aX .leaf) 298 aX (.node .leaf 299 aX .leaf)) 300 aX (.node (.node (.node .leaf 301 ⟨.arr 256 5,256,256,.agg (Array.replicate 256 (.int .u8 0))⟩ .leaf) 302 ⟨.stru [(5,0,1),(5,1,1)],2,2,.agg #[.int .u8 0,.int .u8 0]⟩ .leaf) 303 ⟨.stru [(5,0,1),(5,1,1)],2,2,.agg #[.int .u8 0,.int .u8 0]⟩ (.node .leaf 304 ⟨.arr 16 303,32,32,.agg (Array.replicate 32 (.int .u8 0))⟩ .leaf))))) 305 aX (.node (.node (.node (.node (.node (.node .leaf 306 aX .leaf) 307 aX .leaf) 308 aX (.node (.node .leaf 309 aX .leaf) 310 aX .leaf)) 311 Tt (.node (.node (.node .leaf 312 aX .leaf) 313 aX .leaf) 314 ⟨.ptr 3,1,8,.pointer none⟩ (.node .leaf 315 aX .leaf))) 316 aX (.node (.node (.node (.node .leaf 317 aX .leaf) 318 aX .leaf) 319 aX (.node .leaf 321 aX .leaf)) 322 ⟨.ptr 172,1,8,.pointer none⟩ (.node (.node (.node .leaf 323 aX .leaf) 324 aX .leaf) 325 aX (.node .leaf 326 ⟨.ptr 311,1,8,.pointer none⟩ .leaf)))) 328 aX (.node (.node (.node (.node (.node .leaf 329 aX .leaf) 330 aX .leaf) 331 aX (.node .leaf 332 aX .leaf)) 333 ⟨.stru [(17,0,1),(17,1,1),(17,2,1),(9,3,1)],4,40,.agg #[.pointer none,.pointer none,.pointer none,.string ⟨#[]⟩]⟩ (.node (.node (.node .leaf 334 ⟨.stru [(17,0,1),(17,1,1),(17,2,1),(9,3,1)],4,40,.agg #[.pointer none,.pointer none,.pointer none,.string ⟨#[]⟩]⟩ .leaf) 335 ⟨.arr 0 16,0,0,.agg #[]⟩ .leaf) 336 ⟨.stru [(335,0,0)],0,0,.agg #[]⟩ (.node .leaf 337 ⟨.stru [(335,0,0)],0,0,.agg #[]⟩ .leaf))) 338 Tv (.node (.node (.node (.node .leaf 339 Tv .leaf) 340 aX .leaf) 341 ⟨.ptr 5,1,8,.pointer none⟩ (.node .leaf 342 WH .leaf)) 343 WH (.node (.node (.node .leaf 344 ⟨.stru [(12,0,1),(12,1,1),(65,2,1),(338,3,1),(5,4,1),(5,5,1),(339,6,1),(340,7,1),(341,8,1),(342,9,1),(343,10,1)],11,48,.agg #[.int .u64 0,.int .u64 0,.int .u32 0,.int .u8 0,.int .u8 0,.int .u8 0,.int .u8 0,.nilFunc,.pointer none,.int .i32 0,.int .i32 0]⟩ .leaf) 345 ⟨.stru [(12,0,1),(12,1,1),(65,2,1),(338,3,1),(5,4,1),(5,5,1),(339,6,1),(340,7,1),(341,8,1),(342,9,1),(343,10,1)],11,48,.agg #[.int .u64 0,.int .u64 0,.int .u32 0,.int .u8 0,.int .u8 0,.int .u8 0,.int .u8 0,.nilFunc,.pointer none,.int .i32 0,.int .i32 0]⟩ .leaf) 346 ⟨.stru [(9,0,1),(53,1,4)],5,56,.agg #[.string ⟨#[]⟩,.int .i64 0,.int .i64 0,.float .f64 0,.string ⟨#[]⟩]⟩ (.node .leaf 347 ⟨.stru [(9,0,1),(53,1,4)],5,56,.agg #[.string ⟨#[]⟩,.int .i64 0,.int .i64 0,.float .f64 0,.string ⟨#[]⟩]⟩ .leaf)))))))
theorem aa:T.Ok Tryz.prog:=wb (t:=T) J7
theorem eS:(Ty.norm T).Ok Tryz.prog:=aa
end Go.Proofs.YtgpgladbdoimdaaGreatDoor
namespace Go.Ids
structure bB where
 c:Nat
 k:Nat
 deriving DecidableEq,Inhabited
def bB.at(x:bB)(c:Nat):Nat:=if x.c=c∧1≤c∧c≤9007199254740991 then min x.k 9007199254740991 else 0
def bI:List bB→Nat→Nat
 |[],_=>0
 |x::l,c=>max (x.at c) (bI l c)
theorem ju(a b:List bB)(c:Nat):bI (a++b) c=max (bI a c) (bI b c):=by
 induction a with
 |nil=>simp [bI]
 |cons x a ih=>simp only [yB,bI,ih];omega
theorem xm(l:List bB)(c:Nat):bI l c≤9007199254740991:=by
 induction l with
 |nil=>simp [bI]
 |cons x l ih=>
  have:x.at c≤9007199254740991:=by unfold bB.at;split<;>omega
  simp only [bI];omega
theorem wh:∀{l:List bB} {c:Nat},bI l c≠0→∃x∈l,x.c=c∧1≤c∧c≤9007199254740991∧1≤x.k
 |[],c,h=>absurd rfl h
 |x::l,c,h=>by
  simp only [bI]at h
  by_cases h0:x.at c=0
  ·obtain ⟨y,hy,h1⟩:=wh (l:=l) (c:=c) J9;exact ⟨y,zO _ hy,h1⟩
  ·unfold bB.at at h0
   split at h0
   ·rename_i hh;exact ⟨x,zS ..,hh.1,hh.2.1,hh.2.2,J9⟩
   ·exact absurd rfl h0
theorem FO{l:List bB}{c:Nat}(h:∀x∈l,x.at c=0):bI l c=0:=by
 induction l with
 |nil=>rfl
 |cons x l ih=>
  have h1:=h x (zS ..);have h2:=ih (fun y hy=>h y (zO _ hy));simp only [bI,h1,h2];rfl
def bB.ok(x:bB):Prop:=1≤x.c∧x.c≤9007199254740991∧1≤x.k∧x.k≤9007199254740991
theorem bB.ok.at{x:bB}(h:x.ok)(c:Nat):x.at c=if x.c=c then x.k else 0:=by
 unfold bB.at
 by_cases h1:x.c=c
 ·subst h1;rw [yS ⟨rfl,h.1,h.2.1⟩,yS rfl,zR h.2.2.2]
 ·rw [zX h1,zX (fun hh=>h1 hh.1)]
def bK(l:List bB):Prop:=(∀x∈l,x.ok)∧l.Pairwise fun x y=>x.c<y.c
theorem bK.nil:bK []:=⟨(fun _ h=>by cases h),List.Pairwise.nil⟩
theorem bK.tail{x:bB}{l:List bB}(h:bK (x::l)):bK l:=⟨fun y hy=>h.1 y (zO _ hy),(yZ.1 h.2).2⟩
theorem bK.behind{x y:bB}{l:List bB}(h:bK (x::l))(hy:y∈l):x.c<y.c:=(yZ.1 h.2).1 y hy
theorem bK.low{x:bB}{l:List bB}(h:bK (x::l)){c:Nat}(hc:c≤x.c):bI l c=0:=FO fun y hy=>by
 have:=h.behind hy;rw [(h.tail.1 y hy).at,zX J9]
theorem bK.at_mem:∀{l:List bB} {x:bB},bK l→x∈l→bI l x.c=x.k
 |[],_,_,h=>by cases h
 |y::l,x,hl,h=>by
  rcases yH.1 h with rfl|h
  ·simp only [bI];rw [(hl.1 x (zS ..)).at,yS rfl,hl.low (yP _),wN]
  ·have h1:=hl.behind h;simp only [bI];rw [(hl.1 y (zS ..)).at,zX J9,Nat.zero_max];exact bK.at_mem hl.tail h
theorem ma:∀{a b:List bB},bK a→bK b→(∀c,bI a c=bI b c)→a=b
 |[],[],_,_,_=>rfl
 |[],y::b,_,hb,h=>by
  have h1:=h y.c;rw [hb.at_mem (zS ..)]at h1;have:=(hb.1 y (zS ..)).2.2.1;have:bI [] y.c=0:=rfl;omega
 |x::a,[],ha,_,h=>by
  have h1:=h x.c;rw [ha.at_mem (zS ..)]at h1;have:=(ha.1 x (zS ..)).2.2.1;have:bI [] x.c=0:=rfl;omega
 |x::a,y::b,ha,hb,h=>by
  have hx:=ha.1 x (zS ..);have hy:=hb.1 y (zS ..);have h1:=ha.at_mem (zS ..);have h2:=hb.at_mem (zS ..);have lo:∀{u:bB} {l:List bB},bK (u::l)→∀c,c<u.c→bI (u::l) c=0:=fun{u l} hu c hc=>by
   simp only [bI];rw [(hu.1 u (zS ..)).at,zX J9,hu.low J9];rfl
  have hc:x.c=y.c:=by
   rcases Nat.lt_trichotomy x.c y.c with h3|h3|h3
   ·have:=lo hb x.c h3;rw [←h,h1]at this;have:=hx.2.2.1;omega
   ·exact h3
   ·have:=lo ha y.c h3;rw [h,h2]at this;have:=hy.2.2.1;omega
  have hk:x.k=y.k:=by rw [←h1,←h2,h,hc]
  have OL:x=y:=by cases x;cases y;simp_all
  subst OL;have px:∀c,bI a c=bI b c:=fun c=>by
   have h9:=h c;simp only [bI]at h9;rw [hx.at]at h9
   by_cases h0:x.c=c
   ·rw [ha.low J9,hb.low J9]
   ·rw [zX h0]at h9;omega
  rw [ma ha.tail hb.tail px]
def oO:List bB→bB→List bB
 |[],x=>[x]
 |y::l,x=>if x.c<y.c then x::y::l else if x.c=y.c then{y with k:=max y.k x.k}::l else y::oO l x
theorem tk:∀{l:List bB} {x:bB},bK l→x.ok→bK (oO l x)∧(∀c,bI (oO l x) c=max (bI l c) (x.at c))∧∀y∈oO l x,(∃z∈l,y.c=z.c)∨y.c=x.c
 |[],x,_,hx=>⟨⟨fun y hy=>by have:y=x:=(by simpa [oO]using hy);subst this;exact hx,by simp [oO]⟩,fun c=>by simp [oO,bI],fun y hy=>.inr (by have:y=x:=(by simpa [oO]using hy);rw [this])⟩
 |y::l,x,hl,hx=>by
  have hy:=hl.1 y (zS ..);unfold oO
  by_cases h1:x.c<y.c
  ·rw [yS h1];refine ⟨⟨fun z hz=>?_,yZ.2 ⟨fun z hz=>?_,hl.2⟩⟩,fun c=>?_,fun z hz=>?_⟩
   ·rcases yH.1 hz with rfl|hz
    ·exact hx
    ·exact hl.1 z hz
   ·rcases yH.1 hz with rfl|hz
    ·exact h1
    ·have:=hl.behind hz;omega
   ·simp only [bI];omega
   ·rcases yH.1 hz with rfl|hz
    ·exact .inr rfl
    ·exact .inl ⟨z,hz,rfl⟩
  ·rw [zX h1]
   by_cases h2:x.c=y.c
   ·rw [yS h2];have hm:bB.ok {y with k:=max y.k x.k}:=⟨hy.1,hy.2.1,by have:=hy.2.2.1;show 1≤max y.k x.k;omega,by have:=hy.2.2.2;have:=hx.2.2.2;show max y.k x.k≤_;omega⟩;refine ⟨⟨fun z hz=>?_,yZ.2 ⟨fun z hz=>hl.behind hz,hl.tail.2⟩⟩,fun c=>?_,fun z hz=>?_⟩
    ·rcases yH.1 hz with rfl|hz
     ·exact hm
     ·exact hl.1 z (zO _ hz)
    ·simp only [bI];rw [hm.at,hy.at,hx.at];simp only
     by_cases h3:y.c=c
     ·rw [yS h3,yS h3,yS J9];omega
     ·rw [zX h3,zX h3,zX J9];omega
    ·rcases yH.1 hz with rfl|hz
     ·exact .inr h2.symm
     ·exact .inl ⟨z,zO _ hz,rfl⟩
   ·rw [zX h2];obtain ⟨i1,i2,i3⟩:=tk hl.tail hx;refine ⟨⟨fun z hz=>?_,yZ.2 ⟨fun z hz=>?_,i1.2⟩⟩,fun c=>?_,fun z hz=>?_⟩
    ·rcases yH.1 hz with rfl|hz
     ·exact hy
     ·exact i1.1 z hz
    ·rcases i3 z hz with⟨w,hw,h3⟩|h3
     ·rw [h3];exact hl.behind hw
     ·omega
    ·simp only [bI,i2];omega
    ·rcases yH.1 hz with rfl|hz
     ·exact .inl ⟨z,zS ..,rfl⟩
     ·rcases i3 z hz with⟨w,hw,h3⟩|h3
      ·exact .inl ⟨w,zO _ hw,h3⟩
      ·exact .inr h3
theorem AK:∀(l:List bB) (x:bB),(oO l x).length≤l.length+1
 |[],x=>by simp [oO]
 |y::l,x=>by
  unfold oO
  split
  ·simp
  ·split
   ·simp
   ·simp [AK l x]
def bB.right(x:bB):Bool:=decide (1≤x.c)&&(decide (x.c≤9007199254740991)&&decide (1≤x.k))
theorem qB{x:bB}:x.right=true↔1≤x.c∧x.c≤9007199254740991∧1≤x.k:=by simp [bB.right]
def bB.cut(x:bB):bB:=⟨x.c,min x.k 9007199254740991⟩
theorem bB.Pm{x:bB}(h:x.right=true):x.cut.ok:=by
 have:=qB.1 h;exact ⟨this.1,this.2.1,by show 1≤min x.k _;omega,by show min x.k _≤_;omega⟩
theorem bB.PL(x:bB)(c:Nat):x.cut.at c=x.at c:=by
 unfold bB.at bB.cut;simp only
 split<;>omega
theorem Gs{x:bB}(h:¬x.right=true)(c:Nat):x.at c=0:=by
 rw [qB]at h;unfold bB.at
 split<;>omega
def nE(L:List bB)(x:bB):List bB:=if x.right=true then oO L x.cut else L
def jw(l:List bB):List bB:=l.foldl nE []
theorem BS{L:List bB}(x:bB)(h:bK L):bK (nE L x)∧(∀c,bI (nE L x) c=max (bI L c) (x.at c))∧(nE L x).length≤L.length+1:=by
 unfold nE
 split
 ·rename_i hr;obtain ⟨h1,h2,_⟩:=tk h (bB.Pm hr);exact ⟨h1,fun c=>by rw [h2,bB.PL],AK _ _⟩
 ·rename_i hr;exact ⟨h,fun c=>by rw [Gs hr,wN],J9⟩
theorem jl:∀(l L:List bB),bK L→bK (l.foldl nE L)∧(∀c,bI (l.foldl nE L) c=max (bI L c) (bI l c))∧(l.foldl nE L).length≤L.length+l.length
 |[],L,h=>⟨h,fun c=>by simp [bI],YA⟩
 |x::l,L,h=>by
  obtain ⟨h1,h2,h3⟩:=BS x h;obtain ⟨g1,g2,g3⟩:=jl l (nE L x) h1;refine ⟨g1,fun c=>?_,?_⟩
  ·rw [xB,g2,h2];simp only [bI];omega
  ·rw [xB,yF];omega
theorem xa(l:List bB):bK (jw l):=(jl l [] bK.nil).1
theorem tu(l:List bB)(c:Nat):bI (jw l) c=bI l c:=by
 have:=(jl l [] bK.nil).2.1 c;have h0:bI [] c=0:=rfl;unfold jw;rw [this,h0,Nat.zero_max]
theorem BH(l:List bB):(jw l).length≤l.length:=by
 have:=(jl l [] bK.nil).2.2
 simpa [jw]using this
theorem ES{l L:List bB}(h:bK L)(ha:∀c,bI L c=bI l c):L=jw l:=ma h (xa l) fun c=>by rw [ha,tu]
def jO(a b:List bB):List bB:=jw (a++b)
theorem Ih(a b:List bB)(c:Nat):bI (jO a b) c=max (bI a c) (bI b c):=by unfold jO;rw [tu,ju]
theorem ED(a b:List bB):(jO a b).length≤a.length+b.length:=by
 have:=BH (a++b)
 rwa [zY]at this
def vj:List bB→bB→List bB
 |y::r,x=>if y.c=x.c then{y with k:=max y.k x.k}::r else x::y::r
 |[],x=>[x]
instance(x:aG)(c k:Nat):Decidable (x.has c k):=by unfold aG.has;infer_instance
instance(l:List aG)(c k:Nat):Decidable (mem l c k):=by unfold mem;infer_instance
def rH(l:List aG):Nat:=(l.map fun x=>x.t-x.f).sum
def cK(rs than:List aK)(c k:Nat):Nat:=if ak than c k<ak rs c k then ak rs c k else 0
theorem qM{l:List aK}{c k:Nat}(h:ak l c k≠0):ak l c k≤9007199254740991∧∃x∈l,x.right=true∧x.c=c∧x.f≤k∧k<x.t:=by
 obtain ⟨x,hx,h1⟩:=gT h;obtain ⟨g1,g2,g3,g4,g5⟩:=oK (x:=x) (c:=c) (k:=k) J9;have:=aT.1 g1;exact ⟨J9,x,hx,g1,g2,g3,g4⟩
theorem lr{l:List aK}{c a k:Nat}(hak:a≤k)(h:∀x∈l,x.right=true→x.c=c→(x.f≤a∨k<x.f)∧(x.t≤a∨k<x.t)):ak l c k=ak l c a:=by
 induction l with
 |nil=>rfl
 |cons x l ih=>
  have h1:=ih (fun y hy=>h y (zO _ hy));have h2:x.at c k=x.at c a:=by
   unfold aK.at
   by_cases hc:x.right=true∧x.c=c
   ·have h3:=h x (zS ..) hc.1 hc.2
    by_cases h4:x.f≤a∧a<x.t
    ·rw [yS ⟨hc.1,hc.2,J9,J9⟩,yS ⟨hc.1,hc.2,h4⟩]
    ·rw [zX (fun hh=>h4 ⟨J9,J9⟩),zX (fun hh=>h4 hh.2.2)]
   ·rw [zX (fun hh=>hc ⟨hh.1,hh.2.1⟩),zX (fun hh=>hc ⟨hh.1,hh.2.1⟩)]
  simp only [ak,h1,h2]
def jV(rs than:List aK)(r:List aK)(c a b:Nat):List aK:=if ak rs c a≤ak than c a then r else tj r ⟨c,a,b,ak rs c a⟩
theorem BT{rs than r:List aK}{c a b:Nat}(hr:ew r)(sM:a<b)(ha:1≤a)(hb:b≤9007199254740992)(hc:1≤c∧c≤9007199254740991)
  (q7:∀y∈r,y.c<c∨(y.c=c∧y.t≤a))(iw:∀k,a≤k→k<b→cK rs than c k=cK rs than c a):
  ew (jV rs than r c a b)∧(∀c' k,ak (jV rs than r c a b) c' k=max (ak r c' k) (if c=c'∧a≤k∧k<b then cK rs than c' k else 0))∧∀y∈jV rs than r c a b,y.c<c∨(y.c=c∧y.t≤b):=by
 unfold jV
 by_cases h:ak rs c a≤ak than c a
 ·rw [yS h];have h0:cK rs than c a=0:=zX J9;refine ⟨hr,fun c' k=>?_,fun y hy=>?_⟩
  ·by_cases hk:c=c'∧a≤k∧k<b
   ·obtain ⟨rfl,h1,h2⟩:=hk;rw [yS ⟨rfl,h1,h2⟩,iw k h1 h2,h0,wN]
   ·rw [zX hk,wN]
  ·rcases q7 y hy with h1|⟨h1,h2⟩
   ·exact .inl h1
   ·exact .inr ⟨h1,J9⟩
 ·rw [zX h];have h0:cK rs than c a=ak rs c a:=yS J9;have hn:=qM (l:=rs) (c:=c) (k:=a) J9;have hp:aK.right ⟨c,a,b,ak rs c a⟩=true:=aT.2 ⟨hc.1,hc.2,ha,sM,hb,by simp only;omega,hn.1⟩;obtain ⟨t1,t2,t3⟩:=DL hr hp q7;refine ⟨t1,fun c' k=>?_,t3⟩;rw [t2]
  by_cases hk:c=c'∧a≤k∧k<b
  ·obtain ⟨rfl,h1,h2⟩:=hk;rw [yS ⟨rfl,h1,h2⟩,iw k h1 h2,h0,AT hp rfl h1 h2]
  ·rw [zX hk];have:aK.at ⟨c,a,b,ak rs c a⟩ c' k=0:=zX (fun hh=>hk hh.2);rw [this]
def dN(rs than:List aK)(c:Nat):List aK→List Nat→List aK
 |r,a::b::M=>dN rs than c (jV rs than r c a b) (b::M)
 |r,_=>r
theorem rX{rs than:List aK}{c:Nat}(hc:1≤c∧c≤9007199254740991):∀(M:List Nat) (a:Nat) (r:List aK),(a::M).Pairwise (·<·)→(∀z∈a::M,1≤z∧z≤9007199254740992)→ew r→
  (∀y∈r,y.c<c∨(y.c=c∧y.t≤a))→(∀x∈rs++than,x.right=true→x.c=c→(x.f<a∨x.f∈a::M)∧(x.t<a∨x.t∈a::M))→
  ew (dN rs than c r (a::M))∧(∀c' k,ak (dN rs than c r (a::M)) c' k=max (ak r c' k) (if c=c'∧a≤k then cK rs than c' k else 0))∧∀y∈dN rs than c r (a::M),y.c≤c
 |[],a,r,_,_,hr,q7,hE=>by
  have e:dN rs than c r [a]=r:=rfl;rw [e];refine ⟨hr,fun c' k=>?_,fun y hy=>by rcases q7 y hy with h|h<;>omega⟩
  by_cases hk:c=c'∧a≤k
  ·obtain ⟨rfl,h1⟩:=hk;have h0:ak rs c k=0:=fM fun x hx=>zX fun hh=>by
    have h2:=(hE x (yW _ hx) hh.1 hh.2.1).2;simp only [zT]at h2;omega
   have:cK rs than c k=0:=zX J9;rw [yS ⟨rfl,h1⟩,this,wN]
  ·rw [zX hk,wN]
 |b::M,a,r,hs,hM,hr,q7,hE=>by
  have e:dN rs than c r (a::b::M)=dN rs than c (jV rs than r c a b) (b::M):=rfl;have ud:=yZ.1 hs;have sM:a<b:=ud.1 b (zS ..);have ZU:=yZ.1 ud.2;have fW:∀z,z∈b::M→b≤z:=fun z hz=>by
   rcases yH.1 hz with rfl|hz
   ·exact yP _
   ·exact Nat.le_of_lt (ZU.1 z hz)
  have Mu:∀x∈rs++than,x.right=true→x.c=c→(x.f≤a∨b≤x.f)∧(x.t≤a∨b≤x.t):=fun x hx h1 h2=>by
   obtain ⟨g1,g2⟩:=hE x hx h1 h2;constructor
   ·rcases g1 with g1|g1
    ·exact .inl J9
    ·rcases yH.1 g1 with g1|g1
     ·exact .inl J9
     ·exact .inr (fW _ g1)
   ·rcases g2 with g2|g2
    ·exact .inl J9
    ·rcases yH.1 g2 with g2|g2
     ·exact .inl J9
     ·exact .inr (fW _ g2)
  have iw:∀k,a≤k→k<b→cK rs than c k=cK rs than c a:=fun k h1 h2=>by
   have e1:ak rs c k=ak rs c a:=lr h1 fun x hx g1 g2=>by
    have:=Mu x (yW _ hx) g1 g2;omega
   have e2:ak than c k=ak than c a:=lr h1 fun x hx g1 g2=>by
    have:=Mu x (yX _ hx) g1 g2;omega
   unfold cK;rw [e1,e2]
  obtain ⟨t1,t2,t3⟩:=BT (rs:=rs) (than:=than) hr sM (hM a (zS ..)).1 (hM b YA).2 hc q7 iw;obtain ⟨u1,u2,u3⟩:=rX hc M b (jV rs than r c a b) ud.2 (fun z hz=>hM z (zO _ hz)) t1 t3 (fun x hx h1 h2=>by
   obtain ⟨g1,g2⟩:=hE x hx h1 h2;constructor
   ·rcases g1 with g1|g1
    ·exact .inl J9
    ·rcases yH.1 g1 with g1|g1
     ·exact .inl J9
     ·exact .inr g1
   ·rcases g2 with g2|g2
    ·exact .inl J9
    ·rcases yH.1 g2 with g2|g2
     ·exact .inl J9
     ·exact .inr g2)
  rw [e];refine ⟨u1,fun c' k=>?_,u3⟩;rw [u2,t2]
  by_cases h1:c=c'
  ·by_cases h2:a≤k
   ·by_cases h3:k<b
    ·rw [yS ⟨h1,h2,h3⟩,zX (fun hh=>by omega),yS ⟨h1,h2⟩];omega
    ·rw [zX (fun hh=>h3 hh.2.2),yS ⟨h1,J9⟩,yS ⟨h1,h2⟩];omega
   ·rw [zX (fun hh=>h2 hh.2.1),zX (fun hh=>by omega),zX (fun hh=>h2 hh.2)];omega
  ·rw [zX (fun hh=>h1 hh.1),zX (fun hh=>h1 hh.1),zX (fun hh=>h1 hh.1)];omega
def qj(rs than:List aK)(c:Nat)(M:List Nat):Prop:=M.Pairwise (·<·)∧(∀z∈M,1≤z∧z≤9007199254740992)∧∀x∈rs++than,x.right=true→x.c=c→x.f∈M∧x.t∈M
theorem AU{rs than r:List aK}{c:Nat}{M:List Nat}(hc:1≤c∧c≤9007199254740991)(hM:qj rs than c M)(hr:ew r)(q7:∀y∈r,y.c<c):
  ew (dN rs than c r M)∧(∀c' k,ak (dN rs than c r M) c' k=max (ak r c' k) (if c=c' then cK rs than c' k else 0))∧∀y∈dN rs than c r M,y.c≤c:=by
 obtain ⟨h1,h2,h3⟩:=hM;cases M with
 |nil=>
  refine ⟨hr,fun c' k=>?_,fun y hy=>Nat.le_of_lt (q7 y hy)⟩;have e:dN rs than c r []=r:=rfl;rw [e]
  by_cases n9:c=c'
  ·subst n9;have h0:ak rs c k=0:=fM fun x hx=>zX fun hh=>by
    have:=(h3 x (yW _ hx) hh.1 hh.2.1).1;cases this
   have:cK rs than c k=0:=zX J9;rw [yS rfl,this,wN]
  ·rw [zX n9,wN]
 |cons a M=>
  obtain ⟨p1,p2,p3⟩:=rX hc M a r h1 h2 hr (fun y hy=>.inl (q7 y hy)) (fun x hx g1 g2=>⟨.inr (h3 x hx g1 g2).1,.inr (h3 x hx g1 g2).2⟩);refine ⟨p1,fun c' k=>?_,p3⟩;rw [p2]
  by_cases n9:c=c'
  ·subst n9
   by_cases hk:a≤k
   ·rw [yS ⟨rfl,hk⟩,yS rfl]
   ·have h0:ak rs c k=0:=fM fun x hx=>zX fun hh=>by
     have h9:=(h3 x (yW _ hx) hh.1 hh.2.1).1;rcases yH.1 h9 with h9|h9
     ·omega
     ·have:=(yZ.1 h1).1 _ h9;omega
    have:cK rs than c k=0:=zX J9;rw [zX (fun hh=>hk hh.2),yS rfl,this]
  ·rw [zX (fun hh=>n9 hh.1),zX n9]
theorem ky(l:List aK)(c k:Nat):cK l [] c k=ak l c k:=by
 unfold cK;have:ak [] c k=0:=rfl;rw [this]
 split<;>omega
end Go.Ids
