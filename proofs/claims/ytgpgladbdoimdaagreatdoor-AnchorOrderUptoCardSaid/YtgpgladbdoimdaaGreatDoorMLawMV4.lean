/- Texts that belong together. -/
import Derived.Test.YtgpgladbdoimdaaGreatDoorMLawMV2
import Derived.OrdersHeld
import Derived.OrdersIn
import Derived.RangeFuncRecord
import Derived.RangeFuncOwn
import Derived.Scope
import Derived.Laws.StructEq
import Derived.Laws.BytesString
import Derived.ProofKit
import Derived.SizedLaws
import Derived.Lib.ValidLaws
namespace Go.Ev
open Go.RowKit
def Own(m:World)(S:List Nat)(t:TypeId)(sz:Nat)(v:Value)(n:Nat)(xs:List Value):Prop:=
 xs.length=n*sz∧((∃A,v=.slice A 0 0∧n=0∧S=[])∨
  ∃g cap cur,v=.slice (some ⟨g,0,none⟩) n cap∧bw m g t cur∧n≤cap∧cap≤maxLen∧cur.length=cap*sz∧cur.take (n*sz)=xs∧S=[g])
def bp(m:World)(S S':List Nat):Prop:=∀k∈S',k∈S∨m.heap.size≤k
section
variable{m m' m'':World} {S S' S'' M M':List Nat} {t:TypeId} {sz:Nat} {v:Value} {n:Nat} {xs:List Value}
theorem bp.refl(m:World)(S:List Nat):bp m S S:=fun _ h=>.inl h
theorem bp.nil(m:World)(S:List Nat):bp m S []:=fun _ h=>by cases h
theorem bp.trans(h:bp m S S')(h':bp m' S' S'')(cz:m.heap.size≤m'.heap.size):bp m S S'':=fun k hk=>by
 rcases h' k hk with h1|h1
 ·exact h k h1
 ·exact .inr (wG cz h1)
theorem bp.trans'(h:bp m' S S')(hE:Ext m M m'):bp m S S':=fun k hk=>by
 rcases h k hk with h1|h1
 ·exact .inl h1
 ·exact .inr (wG hE.size h1)
theorem bp.ej(h:bp m S S'){k:Nat}(hk:k∉S)(aM:k<m.heap.size):k∉S':=fun hh=>by
 rcases h k hh with h1|h1
 ·exact hk h1
 ·omega
theorem Own.empty(m:World)(t:TypeId)(sz:Nat)(A:Option Addr):Own m [] t sz (.slice A 0 0) 0 []:=⟨YA,.inl ⟨A,rfl,rfl,rfl⟩⟩
theorem Own.lt(h:Own m S t sz v n xs):∀k∈S,k<m.heap.size:=by
 rcases h.2 with⟨_,_,_,rfl⟩|⟨g,_,_,_,hB,_,_,_,_,rfl⟩
 ·simp
 ·simpa using hB.lt
theorem Own.ext(h:Own m S t sz v n xs)(hE:Ext m M m')(hM:∀k∈S,k∉M):Own m' S t sz v n xs:=by
 refine ⟨h.1,?_⟩;rcases h.2 with h1|⟨g,cap,cur,hv,hB,h1,h2,h3,h4,rfl⟩
 ·exact .inl h1
 ·exact .inr ⟨g,cap,cur,hv,hB.ext hE (hM g YA),h1,h2,h3,h4,rfl⟩
theorem Own.sl(h:Own m S t sz v n xs)(hM:∀k∈S,k∉M):Sl m M sz v xs:=by
 obtain ⟨hl,h1|⟨g,cap,cur,hv,hB,h1,h2,h3,h4,rfl⟩⟩:=h
 ·obtain ⟨A,rfl,rfl,rfl⟩:=h1;have:xs=[]:=wO (by simpa using hl);subst this;exact ⟨A,0,0,rfl,yP _,yI _,YA,fun _=>rfl,fun h=>absurd h J9⟩
 ·subst hv;subst h4;exact Sl.jF hB (hM g YA) (by rw [h3];exact wP _ h1) h1 h2
theorem Own.one(h:Own m S t sz v n xs):v.oneCell'=true:=by
 rcases h.2 with⟨_,rfl,_⟩|⟨_,_,_,rfl,_⟩<;>rfl
theorem Own.shape(h:Own m S t sz v n xs):∃A c,v=.slice A n c∧n≤c:=by
 rcases h.2 with⟨A,rfl,rfl,_⟩|⟨g,cap,_,rfl,_,h1,_⟩
 ·exact ⟨A,0,rfl,yP _⟩
 ·exact ⟨_,cap,rfl,h1⟩
theorem Own.at_(h:Own m S t sz v n xs)(hn:0<n):∃g cap cur,v=.slice (some ⟨g,0,none⟩) n cap∧bw m g t cur∧n≤cap∧cap≤maxLen∧cur.length=cap*sz∧cur.take (n*sz)=xs∧S=[g]:=by
 rcases h.2 with⟨_,_,rfl,_⟩|h
 ·omega
 ·exact h
end
section
variable{P:Program} {T:Ty} {m w:World} {S:List Nat} {te t:TypeId} {rt r:Row} {v x:Value} {n k:Nat} {xs news:List Value}
def Src(P:Program)(sz:Nat)(m:World)(x:Value)(k:Nat)(news:List Value):Prop:=
 (∀w,(Builtin.lenOf x).run P w=.ok k w)∧∀w,bS m w→(Builtin.firstCells sz k x).run P w=.ok news.toArray w
theorem Src.cS{M:List Nat}{sz:Nat}{A:Option Addr}{c:Nat}(h:Sl m M sz (.slice A k c) news):Src P sz m (.slice A k c) k news:=by
 obtain ⟨A',n',c',hv,_,_,hl,hA,hr⟩:=h
 injection hv with h1 h2 h3
 subst h1;subst h2;subst h3;refine ⟨fun w=>by simp [Builtin.lenOf],fun w hs=>?_⟩;cases A with
 |none=> 
  have h0:=hA rfl;rcases xR k with rfl|hk
  ·have:news=[]:=wO (by simpa using hl);subst this;simp [Builtin.firstCells]
  ·obtain ⟨ad,iH,_⟩:=hr hk;cases iH
 |some ad=>
  refine run_firstCells_some w sz k ad k c news hl (fun j u hu=>?_);have h0:j<news.length:=(yV.1 hu).1;have hk:0<k:=by
   rcases xR k with rfl|hk
   ·rw [hl]at h0;simp at h0
   ·exact hk
  obtain ⟨ad',iH,_,hc⟩:=hr hk
  injection iH with iH
  subst iH;exact (hs.cell _).trans (hc j u hu)
def ZA(l:List UInt8):List Value:=l.map fun b=>.int .u8 b.toNat
theorem fE(z:Array Value)(n:Nat):(Builtin.zeroCells z n).toList.length=n*z.size:=by simp [Builtin.zeroCells]
theorem Cf(hT:T.Ok P)(dD:T.row t=some rt)(hk:rt.k=.kb te)(hr:T.row te=some r)(tN:r.zero.cells.size=r.size){tx:TypeId}(mJ:P.underlying tx=some (.slice te)∨P.underlying tx=some .string)
  (jh:Own m S te r.size v n xs)(mA:Src P r.size m x k news)(hl:news.length=k*r.size)(h1:∀u∈news,u.oneCell'=true)(gj:n+k≤maxLen)(dn:(n+k)*r.bytes≤140737488355328)(hs:bS m w)(ty:TypeId):
  ∃v' w' S',(Builtin.append_ #[t,tx] ty #[v,x]).run P w=.ok v' w'∧Own w' S' te r.size v' (n+k) (xs++news)∧Ext m S (low m w')∧bp m S S':=by
 have hu:=(hT.row dD).k;rw [hk]at hu;obtain ⟨i,hi,yc,A7,GD⟩:=(hT.row hr).parts;have T0:¬((n+k:Nat):Int)>IntKind.i64.max:=by
  have:IntKind.i64.max=9223372036854775807:=by decide
  rw [this];simp only [maxLen]at gj;omega
 have hlen:(xs++news).length=(n+k)*r.size:=by rw [zY,jh.1,hl,Nat.add_mul]
 have grow:∀(A:Option Addr) (cap:Nat),v=.slice A n cap→cap<n+k→(∀W,bS m W→(Builtin.firstCells r.size n v).run P W=.ok xs.toArray W)→
   ∃v' w' S',(Builtin.append_ #[t,tx] ty #[v,x]).run P w=.ok v' w'∧Own w' S' te r.size v' (n+k) (xs++news)∧Ext m S (low m w')∧bp m S S':=by
  intro A cap hv aM hold;have M6:¬(281474976710656<Builtin.nextslicecap (n+k) cap*i.bytes):=by
   rw [GD];have:=growslice_fits aM dn;omega
  have fW:=grownCap_ge w (n+k) cap te;have kl:=grownCap_le_maxLen w (n+k) cap te gj;have hb:bw (w.drew.alloc (.cells (xs++news++(Builtin.zeroCells r.zero.cells (grownCap w (n+k) cap te-(n+k))).toList).toArray te)) w.heap.size te (xs++news++(Builtin.zeroCells r.zero.cells (grownCap w (n+k) cap te-(n+k))).toList):=heap_alloc_new w.drew _;refine ⟨.slice (some ⟨w.heap.size,0,none⟩) (n+k) (grownCap w (n+k) cap te),w.drew.alloc (.cells (xs++news++(Builtin.zeroCells r.zero.cells (grownCap w (n+k) cap te-(n+k))).toList).toArray te),[w.heap.size],?_,?_,?_,?_⟩
  ·have IT:=hold w.drew (hs.drew);have N5:=mA.2 w.drew (hs.drew);rw [hv]at IT;have xw:¬(n+k≤cap):=by omega
   have OV:¬(9223372036854775807<((n:Int)+(k:Int))):=by simp only [maxLen]at gj;omega
   rcases mJ with mJ|mJ<;>simp [Builtin.append_,run_underlying hu,run_underlying mJ,sizeOf,typeInfo,zeroValue,hi,yc,A7,hv,mA.1,xw,M6,OV,IT,N5,newRow,Question.forced,grownCap]<;>(congr 2;apply xO;simp)
  ·exact ⟨hlen,.inr ⟨_,_,_,rfl,hb,fW,kl,by
    simp only [zY,jh.1,hl,fE,tN,←Nat.add_mul];congr 1;omega,by rw [←hlen];exact xY,rfl⟩⟩
  ·refine ⟨hs.os,hs.tape,hs.output,by rw [cJ];simp [hs.size],fun q hq _=>?_,iF.low (yQ hs.drawn)⟩;rw [cJ,Below.heap_alloc w.drew _ q Jc];show w.heap[q]?=_;rw [hs.heap]
  ·intro q hq;have:q=w.heap.size:=by simpa using hq
   subst this;exact .inr (by rw [hs.size];exact yP _)
 rcases jh.2 with⟨A,rfl,rfl,rfl⟩|⟨g,cap,cur,rfl,hB,ya,kl,jW,kT,rfl⟩
 ·have hx:xs=[]:=wO (by simpa using jh.1);subst hx;rcases xR k with rfl|ib
  ·have hn:news=[]:=wO (by simpa using hl);subst hn;refine ⟨.slice A 0 0,w,[],?_,Own.empty w te r.size A,⟨hs.os,hs.tape,hs.output,by rw [cJ,hs.size];exact yP _,fun q _ _=>by rw [cJ,hs.heap],iF.low hs.drawn⟩,bp.nil _ _⟩;have N5:=mA.2 w hs;rcases mJ with mJ|mJ<;>cases A<;>simp [Builtin.append_,run_underlying hu,run_underlying mJ,sizeOf,typeInfo,hi,A7,mA.1,N5,storeCells]
  ·refine grow A 0 rfl J9 (fun W _=>?_);cases A<;>simp [Builtin.firstCells,loadCells,loadCellsFrom]
 ·by_cases Hf:n+k≤cap
  ·have hw:w.heap[g]?=some (.cells cur.toArray te (0,0)):=by rw [hs.heap];exact hB
   have pM:0+n*r.size+news.length≤cur.toArray.size:=by
    rw [hl,zU,←Nat.add_mul];simp only [List.size_toArray,jW];exact wP _ Hf
   have h3:=run_storeCells_at P g (n*r.size) te news 0 cur.toArray w hw (by simpa using pM) h1;simp only [wJ]at h3;have ZP:=(fC hw (cur.take (n*r.size)++news++cur.drop (n*r.size+news.length))).fc;refine ⟨.slice (some ⟨g,0,none⟩) (n+k) cap,_,[g],?_,⟨hlen,.inr ⟨g,cap,_,rfl,ZP,Hf,kl,?_,?_,rfl⟩⟩,?_,bp.refl _ _⟩
   ·have N5:=mA.2 w hs;have Yd:(storeCells ⟨g,n*r.size,none⟩ news).run P w=.ok () (w.setRow g (cur.take (n*r.size)++news++cur.drop (n*r.size+news.length)).toArray):=h3;rcases mJ with mJ|mJ<;>simp [Builtin.append_,run_underlying hu,run_underlying mJ,sizeOf,typeInfo,hi,A7,mA.1,N5,Hf,av,Yd]
   ·have h5:n*r.size+news.length≤cur.length:=by simpa using pM
    simp only [zY,yA,zZ,←jW];omega
   ·rw [kT,←hlen];exact xY
   ·have h6:=(fC hw (cur.take (n*r.size)++news++cur.drop (n*r.size+news.length))).ext;exact ⟨h6.os.trans hs.os,h6.tape.trans hs.tape,h6.output.trans hs.output,by rw [cJ,←hs.size];exact h6.size,fun q hq pR=>by rw [cJ,h6.ej q (by rw [hs.size];exact hq) pR,hs.heap],iF.low (wG hs.drawn h6.drawn.1)⟩
  ·refine grow _ cap rfl J9 (fun W hW=>?_);refine run_firstCells_some W r.size n ⟨g,0,none⟩ n cap xs jh.1 (fun j u hu=>?_);rw [hW.cell,av];refine hB.cell _ ?_;rw [←kT,xV]at hu
   split at hu
   ·simpa using hu
   ·cases hu
end
section
variable{P:Program} {T:Ty} {ops:Array Oper} {Q:Exit→Act→World→Prop} {rest:List Oper} {n:Nat} {e e':Env} {D:Fr} {m:World}
 {d:Option Tmp} {x y:Operand} {t tx ty ty1:TypeId} {pos pos1:String} {aft aft1:Array Edge} {g:Option (Nat×Bool)} {v:Value} {rt r:Row}
def Ty.elem(T:Ty)(t:TypeId):Option (TypeId×Row):=match T.row t with
 |some rt=>match rt.k with
  |.kb te=>match T.row te with
   |some r=>match Nat.beq r.zero.cells.size r.size with
    |true=>match Nat.blt 0 r.size with
     |true=>match Nat.ble r.size 1000 with
      |true=>some (te,r)
      |false=>none
     |false=>none
    |false=>none
   |none=>none
  |_=>none
 |none=>none
theorem Ty.dK{T:Ty}{t te:TypeId}{r:Row}(h:T.elem t=some (te,r)):∃rt,T.row t=some rt∧rt.k=.kb te∧T.row te=some r∧r.zero.cells.size=r.size∧0<r.size∧r.size≤1000:=by
 unfold Ty.elem at h
 split at h
 ·rename_i rt dD
  split at h
  ·rename_i te' hk
   split at h
   ·rename_i r' hr
    split at h
    ·rename_i h1
     split at h
     ·rename_i h2
      split at h
      ·rename_i h3;simp only [yJ,yK]at h;obtain ⟨rfl,rfl⟩:=h;exact ⟨rt,dD,hk,hr,by simpa using h1,by simpa using h2,yU h3⟩
      ·cases h
     ·cases h
    ·cases h
   ·cases h
  ·cases h
 ·cases h
def Ty.ua(T:Ty)(tx te:TypeId):Bool:=match T.row tx with
 |some r=>match r.k with
  |.kb te'=>Nat.beq te' te
  |.str=>true
  |_=>false
 |none=>false
theorem Ty.sf{T:Ty}(hT:T.Ok P){tx te:TypeId}(h:T.ua tx te=true):P.underlying tx=some (.slice te)∨P.underlying tx=some .string:=by
 unfold Ty.ua at h
 split at h
 ·rename_i r hr;have h1:=(hT.row hr).k
  split at h
  ·rename_i te' hk;rw [hk]at h1;have:te'=te:=by simpa using h
   subst this;exact .inl h1
  ·rename_i hk;rw [hk]at h1;exact .inr h1
  ·cases h
 ·cases h
theorem RL.append(hT:T.Ok P){te:TypeId}{S:List Nat}{s sx:Value}{nn k:Nat}{xs:List Value}(jh:Own m S te r.size s nn xs)(news:List Value)(mA:Src P r.size m sx k news)
  (he:T.elem t=some (te,r))(mJ:T.ua tx te=true)
  (hg:gd ops e ⟨d,.call ⟨.builtin .append,#[x,y],#[t,tx]⟩,ty,pos,aft,g⟩=some true)(hx:e.ev x=some s)(hy:e.ev y=some sx)(hl:news.length=k*r.size)
  (h1:∀u∈news,u.oneCell'=true)(gj:nn+k≤maxLen)(dn:(nn+k)*r.bytes≤140737488355328)
  (h:∀v' m' S',Own m' S' te r.size v' (nn+k) (xs++news)→Ext m S m'→bp m S S'→∃e',aQ n d v' e=some e'∧RL P ops Q rest n e' D m'):
  RL P ops Q (⟨d,.call ⟨.builtin .append,#[x,y],#[t,tx]⟩,ty,pos,aft,g⟩::rest) n e D m:=by
 obtain ⟨rt,dD,hk,hr,tN,cz,_⟩:=Ty.dK he;refine RL.uy (R:=fun v' m'=>∃S',Own m' S' te r.size v' (nn+k) (xs++news)∧Ext m S m'∧bp m S S') hg (fun a w hf hs=>?_) (fun v' m' ⟨S',h2,h3,h4⟩=>h v' m' S' h2 h3 h4);obtain ⟨v',w',S',h2,h3,h4,h5⟩:=Cf hT dD hk hr tN (Ty.sf hT mJ) jh mA hl h1 gj dn hs ty;refine ⟨v',w',low m w',?_,bS.low m w',S',h3,h4,h5⟩;simp [execOp,resolve,invoke,builtin,hf.ev hx,hf.ev hy,h2]
theorem sa(sz:Nat):∀(us:List Value) (k:Nat) (pre suf:List Value),(∀u∈us,u.cells.size=sz)→pre.length=k*sz→suf.length=us.length*sz→
  Instr.fill (fun i=>some (i*sz,sz)) (pre++suf).toArray ((us.zipIdx k).map fun p=>(p.2,p.1))=some (pre++us.flatMap (·.cells.toList)).toArray
 |[],k,pre,suf,_,_,hs=>by
  have:suf=[]:=wO (by simpa using hs);subst this;simp [Instr.fill]
 |u::us,k,pre,suf,hu,hp,hs=>by
  have Tb:∀(l:List Value) (j:Nat) (pre':List Value) (suf:List Value),l.length≤suf.length→pre'.length=k*sz+j→
    (l.zipIdx j).foldl (fun(cs:Array Value) (c:Value×Nat)=>cs.setIfInBounds (k*sz+c.2) c.1) (pre'++suf).toArray=(pre'++l++suf.drop l.length).toArray:=by
   intro l
   induction l with
   |nil=>intro j pre' suf _ _;simp
   |cons c l ih=>
    intro j pre' suf hs hp
    match suf,hs with
    |[],hs=>simp at hs
    |s0::suf,hs=>
     simp only [List.zipIdx_cons,xB];have h1:((pre'++s0::suf).toArray.setIfInBounds (k*sz+j) c)=((pre'++[c])++suf).toArray:=by
      rw [List.setIfInBounds_toArray];congr 1;rw [←hp];simp
     have h2:=ih (j+1) (pre'++[c]) suf (by simpa using hs) (by simp [hp,Nat.add_assoc]);rw [h1,h2];simp
  have cz:u.cells.size=sz:=hu u YA;have ud:suf.length=us.length*sz+sz:=by rw [hs,yF,xQ]
  simp only [List.zipIdx_cons,xK,Instr.fill];rw [zX (by simp [cz,hp,ud])];have h4:∀z:Array Value,(u.cells.zipIdx.foldl (fun cs x=>cs.setIfInBounds (k*sz+x.2) x.1) z)=(u.cells.toList.zipIdx 0).foldl (fun(cs:Array Value) (c:Value×Nat)=>cs.setIfInBounds (k*sz+c.2) c.1) z:=by
   intro z;rw [←Array.foldl_toList];simp
  have h5:=Tb u.cells.toList 0 pre suf (by simp [cz,ud]) (by simpa using hp);rw [h4,h5];have h6:=sa sz us (k+1) (pre++u.cells.toList) (suf.drop u.cells.toList.length) (fun x hx=>hu x (by simp [hx])) (by simp [hp,cz,xQ]) (by simp [cz,ud]);rw [h6];simp
theorem pV(hT:T.Ok P){te:TypeId}(he:T.elem t=some (te,r))(us:List Value)(dP:0<us.length)(jg:us.length≤16000)(hu:∀u∈us,u.cells.size=r.size)(w:World):
  (Instr.buildSlice t us.length ((us.zipIdx 0).map fun p=>(p.2,p.1)).toArray).run P w=.ok (.slice (some ⟨w.heap.size,0,none⟩) us.length us.length) (w.alloc (.cells (us.flatMap (·.cells.toList)).toArray te)):=by
 obtain ⟨rt,dD,hk,hr,tN,cz,Hn⟩:=Ty.dK he;have AX:=(hT.row dD).k;rw [hk]at AX;obtain ⟨i,hi,yc,A7,_⟩:=(hT.row hr).parts;have h0:0<us.length*r.size:=Nat.mul_pos dP cz;have h9:us.length*r.size≤16000*1000:=Nat.mul_le_mul jg Hn;refine run_buildSlice w t te us.length _ _ i r.zero AX hi yc (by rw [A7];omega) (by rw [A7];omega) ?_;rw [A7];have:=sa r.size us 0 [] ((Array.range (us.length*r.size)).map (r.zero.cells[·%r.zero.cells.size]!)).toList hu YA YA;simp only [yC,Array.toArray_toList]at this;exact this
def eU:Nat→List Operand→List (Nat×Operand)
 |_,[]=>[]
 |k,x::r=>(k,x)::eU (k+1) r
theorem nt(f:Operand→Value):∀(l:List Operand) (k:Nat),(eU k l).map (fun p=>(p.1,f p.2))=((l.map f).zipIdx k).map fun p=>(p.2,p.1)
 |[],_=>rfl
 |x::r,k=>by simp [eU,nt f r (k+1)]
theorem RL.buildSlice(hT:T.Ok P){te:TypeId}{k:Nat}{parts:Array (Nat×Operand)}(xs:List Operand){us:List Value}(cs:List Value)(he:T.elem t=some (te,r))(mz:parts=(eU 0 xs).toArray)(hk:xs.length=k)(dP:Nat.blt 0 k=true)(jg:Nat.ble k 16000=true)
  (Fs:e.kj xs=some us)(hu:∀u∈us,u.cells.size=r.size)(x9:us.flatMap (·.cells.toList)=cs)(hg:gd ops e ⟨d,.buildSlice t k parts,ty,pos,aft,g⟩=some true)
  (h:∀b m',b=m.heap.size→gD m b (.cells cs.toArray te (0,0)) m'→∃e',aQ n d (.slice (some ⟨b,0,none⟩) k k) e=some e'∧RL P ops Q rest n e' D m'):
  RL P ops Q (⟨d,.buildSlice t k parts,ty,pos,aft,g⟩::rest) n e D m:=by
 subst mz;subst hk;subst x9;obtain ⟨e',hp,hk⟩:=h m.heap.size _ rfl (gD.alloc m _);refine RL.fX _ _ hg (fun a w hf hs=>⟨_,?_,hs.alloc _⟩) hp hk;have hl:=hf.kj Fs;have hlen:us.length=xs.length:=by rw [←hl];simp
 have h2:=pV hT he us (by rw [hlen];simpa using dP) (by rw [hlen];exact yU jg) hu w;rw [hlen]at h2;have h3:((eU 0 xs).toArray.map fun p=>(p.1,a.eval p.2))=((us.zipIdx 0).map fun p=>(p.2,p.1)).toArray:=by
  rw [←hl,←nt a.eval xs 0];simp
 simp only [execOp];have h4:((eU 0 xs).toArray.map fun x=>match x with|(i,x)=>(i,a.eval x))=((us.zipIdx 0).map fun p=>(p.2,p.1)).toArray:=h3;rw [h4];simp [h2,hs.size]
theorem Src.jF{b:Nat}{te:TypeId}{cs:List Value}{k c sz:Nat}(h:bw m b te cs)(hl:cs.length=k*sz):Src P sz m (.slice (some ⟨b,0,none⟩) k c) k cs:=
 ⟨fun w=>by simp [Builtin.lenOf],fun w hs=>run_firstCells_some w sz k _ k c cs hl fun j u hu=>by rw [av];exact (hs.cell _).trans (h.cell _ J2)⟩
theorem RL.dZ(hT:T.Ok P){te:TypeId}{d1:Tmp}{S:List Nat}{s:Value}{nn k:Nat}{xs:List Value}{parts:Array (Nat×Operand)}(ys:List Operand){us:List Value}(jh:Own m S te r.size s nn xs)(news:List Value)
  (he:T.elem t=some (te,r))(mz:parts=(eU 0 ys).toArray)(hk:ys.length=k)(dP:Nat.blt 0 k=true)(jg:Nat.ble k 16000=true)(VO:uo x d1=true)(MN:Nat.blt d1 n=true)
  (hx:e.ev x=some s)(Fs:e.kj ys=some us)(hu:∀u∈us,u.cells.size=r.size)(x9:us.flatMap (·.cells.toList)=news)(h1:∀u∈news,u.oneCell'=true)(gj:nn+k≤maxLen)(dn:(nn+k)*r.bytes≤140737488355328)
  (h:∀v' m' S',Own m' S' te r.size v' (nn+k) (xs++news)→Ext m S m'→bp m S S'→∃e',aQ n d v' ((d1,.slice (some ⟨m.heap.size,0,none⟩) k k)::e)=some e'∧RL P ops Q rest n e' D m'):
  RL P ops Q (⟨some d1,.buildSlice t k parts,ty1,pos1,aft1,none⟩::⟨d,.call ⟨.builtin .append,#[x,.tmp d1],#[t,t]⟩,ty,pos,aft,none⟩::rest) n e D m:=by
 obtain ⟨rt,dD,sD,hr,tN,cz,_⟩:=Ty.dK he;refine RL.buildSlice hT ys news he mz hk dP jg Fs hu x9 rfl (fun b m1 hb hC=>⟨(d1,.slice (some ⟨b,0,none⟩) k k)::e,by simp [aQ,MN],?_⟩);subst hb;have hB:bw m1 m.heap.size te news:=hC.here;have hE:=hC.new (yP _);have hlen:us.length=k:=by
  have:∀(l:List Operand) (vs:List Value),e.kj l=some vs→vs.length=l.length:=by
   intro l
   induction l with
   |nil=>intro vs h;simp [Env.kj]at h;subst h;rfl
   |cons a l ih=>
    intro vs h;unfold Env.kj at h
    split at h
    ·split at h
     ·rename_i hq;injection h with h;subst h;simp [ih _ hq]
     ·cases h
    ·cases h
  rw [this ys us Fs,hk]
 have hl:news.length=k*r.size:=by
  rw [←x9,←hlen];have:∀l:List Value,(∀u∈l,u.cells.size=r.size)→(l.flatMap (·.cells.toList)).length=l.length*r.size:=by
   intro l
   induction l with
   |nil=>simp
   |cons a l ih=>intro h;simp [ih (fun u hu=>h u (by simp [hu])),h a YA,xQ,wQ]
  exact this us hu
 refine RL.append hT (jh.ext hE YA) news (Src.jF (c:=k) hB hl) he (by unfold Ty.ua;rw [dD];simp [sD]) rfl ((Nh VO).trans hx) (by simp [Env.ev,Env.get]) hl h1 gj dn (fun v' m' S' h2 h3 h4=>?_);exact h v' m' S' h2 (hE.mono YA|>.trans h3 (fun k hk=>.inl hk)) (h4.trans' hE)
end
def be(ops:Array Oper):Bool:=ops.all fun o=>match o.op with|.select ..=>false|.defer _=>false|_=>true
theorem sG{ops:Array Oper}(h:be ops=true)(j:Nat)(o:Oper)(ho:ops[j]?=some o):(∀cs b,o.op≠.select cs b)∧∀c,o.op≠.defer c:=by
 have:=Array.all_eq_true_iff_forall_mem.1 h o (Array.mem_of_getElem? ho);exact ⟨fun cs b heq=>by simp [heq]at this,fun c heq=>by simp [heq]at this⟩
def eE(ro:Option Nat)(P:Program)(md:Region.Mode)(ops:Array Oper)(Q:Exit→Act→World→Prop)(S:World→Prop)(fin:List Nat):Nat→Array Bool→Act→World→Prop
 |0,listed,a,w=>Region.ready md ops listed=[]∧Q .normal a w
 |fuel+1,listed,a,w=>
  (Region.ready md ops listed=[]→Q .normal a w)∧
  ∀i∈Region.ready md ops listed,wpOpIn (bJ ro) 0 P ops Q i (fun a' w'=>(i∈fin∨S w')∧eE ro P md ops Q S fin fuel (listed.setIfInBounds i true) a' w') a w
section
variable{ro:Option Nat} {P:Program} {ops:Array Oper} {Q:Exit→Act→World→Prop} {md:Region.Mode} {S:World→Prop} {fin:List Nat}
theorem q9:∀(fuel:Nat) (listed:Array Bool) (a:Act) (w:World),eE ro P md ops Q S fin fuel listed a w→wpAnyIn (bJ ro) 0 P md ops Q fuel listed a w
 |0,_,_,_,h=>h
 |fuel+1,_,_,_,h=>⟨h.1,fun i hi=>wpOpIn_mono (fun a' w' h'=>q9 fuel _ a' w' h'.2) (h.2 i hi)⟩
def FE(md:Region.Mode)(ops:Array Oper)(f i:Nat):Bool:=match ops[f]?with
 |some o=>o.after.any fun e=>Region.binds md e&&e.on==i
 |none=>true
theorem o7{i f:Nat}{listed:Array Bool}(h:FE md ops f i=true)(hr:f∈Region.ready md ops listed)(hi:listed.getD i true=false):False:=by
 obtain ⟨_,o,ho,mD⟩:=mem_ready.1 hr;unfold FE at h;rw [ho]at h;obtain ⟨e,he,hb⟩:=Array.any_eq_true'.1 h;simp only [wR,beq_iff_eq]at hb;have h2:=mD e he hb.1;rw [hb.2]at h2;rcases xA i listed.size with h'|h'
 ·simp [h']at hi h2;rw [hi]at h2;cases h2
 ·simp [Array.getElem?_eq_none h']at h2
def Bo(md:Region.Mode)(ops:Array Oper)(listed:Array Bool):Nat→Nat→Nat→Bool
 |0,f,i=>FE md ops f i
 |n+1,f,i=>FE md ops f i||(List.range ops.size).any fun k=>FE md ops f k&&(!listed.getD k true&&Bo md ops listed n k i)
def mF(md:Region.Mode)(ops:Array Oper)(fin:List Nat)(listed:Array Bool)(i:Nat):Bool:=
 fin.all fun f=>listed.getD f true||Bo md ops listed 3 f i
theorem tm{i:Nat}{listed:Array Bool}(hi:listed.getD i true=false):∀{n f:Nat},Bo md ops listed n f i=true→f∈Region.ready md ops listed→False
 |0,f,h,hr=>o7 h hr hi
 |n+1,f,h,hr=>by
  simp only [Bo,wS,wU,wR,Bool.not_eq_true']at h;rcases h with h|⟨k,_,h1,h2,_⟩
  ·exact o7 h hr hi
  ·exact o7 h1 hr h2
theorem tP{i j:Nat}{listed:Array Bool}(hj:j∈Region.ready md ops listed)(hi:listed.getD i true=false):∀{n f:Nat},Bo md ops listed n f i=true→Bo md ops (listed.setIfInBounds j true) n f i=true
 |0,f,h=>h
 |n+1,f,h=>by
  simp only [Bo,wS,wU,wR,Bool.not_eq_true']at h ⊢;rcases h with h|⟨k,hk,h1,h2,h3⟩
  ·exact .inl h
  ·have CB:j≠k:=fun hh=>tm hi h3 (hh▸hj)
   exact .inr ⟨k,hk,h1,by rw [getD_set_ne true CB];exact h2,tP hj hi h3⟩
theorem AW{i f:Nat}{listed:Array Bool}(h:mF md ops fin listed i=true)(hf:f∈fin)(hr:f∈Region.ready md ops listed)(hi:listed.getD i true=false):False:=by
 have h1:=wX.1 h f hf;simp only [wS]at h1;rcases h1 with h1|h1
 ·have h2:=(mem_ready.1 hr).1;rw [h1]at h2;cases h2
 ·exact tm hi h1 hr
theorem zl{i j:Nat}{listed:Array Bool}(h:mF md ops fin listed i=true)(hj:j∈Region.ready md ops listed)(hi:listed.getD i true=false):mF md ops fin (listed.setIfInBounds j true) i=true:=by
 refine wX.2 fun f hf=>?_
 have h1:=wX.1 h f hf;simp only [wS]at h1 ⊢;rcases h1 with h1|h1
 ·by_cases XL:j=f
  ·subst XL;have h9:=(mem_ready.1 hj).1;rw [h1]at h9;cases h9
  ·left;rw [getD_set_ne true XL];exact h1
 ·exact .inr (tP hj hi h1)
theorem YieldsIf.wpOpIn{i:Nat}{o:Oper}{v:Value}{a:Act}(hd:∀c,o.op≠.defer c)(hi:ops[i]?=some o)(hy:YieldsIf P ops S o v a)
  {K:Act→World→Prop}{w:World}(hS:S w)(h:K (a.put o.dst v) w):wpOpIn (bJ ro) 0 P ops Q i K a w:=by
 unfold Go.wpOpIn;simp only [hi];rcases hy with⟨hw,hv⟩|⟨hw,rfl⟩
 ·simp only [hw,yT,Oper.wpIn,Oper.semAt_eq _ _ _ hd,hv w hS,Oper.uponIn];exact ⟨fun _ _=>trivial,h⟩
 ·simp only [hw,wC,wE];exact ⟨fun _ _=>trivial,h⟩
theorem ux{j:Nat}{oi oj:Oper}{v:Value}(hj:ops[j]?=some oj)(Yx:oi.apart ops oj=true)
  (Yl:∀cs b,oi.op≠.select cs b)(Zu:∀cs b,oj.op≠.select cs b)(Xx:∀c,oj.op≠.defer c)
  (hQ:∀c a w,Q (.panic c) (a.put oi.dst v) w→Q (.panic c) a w){K:Act→World→Prop}{a:Act}{w:World}
  (hy:YieldsIf P ops S oi v a)(h:wpOpIn (bJ ro) 0 P ops Q j K (a.put oi.dst v) w):
  wpOpIn (bJ ro) 0 P ops Q j (fun a' w'=>YieldsIf P ops S oi v a'∧K (a'.put oi.dst v) w') a w:=by
 obtain ⟨h1,h2,h3⟩:=Oper.apart_spec Yx;have dC:∀(a:Act),YieldsIf P ops S oi v a→∀u,YieldsIf P ops S oi v (a.put oj.dst u):=fun a hy u=>
  hy.of_same (execOp_put oi Yl a oj.dst u h3) (wanted_put oi a oj.dst u h3)
 have keepD:∀d,YieldsIf P ops S oi v {a with defers:=d::a.defers}:=fun d=>hy.of_same rfl rfl
 unfold wpOpIn at*;simp only [hj]at*;rw [wanted_put oj a oi.dst v h1]at h
 split
 ·rename_i hw;simp only [hw,yT]at h;unfold Oper.wpIn at*;refine ⟨fun _ _=>trivial,?_⟩;have h:=h.2;rw [Oper.semAt_eq _ _ _ Xx,execOp_put oj Zu a oi.dst v h1]at h;rw [Oper.semAt_eq _ _ _ Xx];generalize (execOp a.eval oj).run P w=r at*;cases r with
  |ok x w'=>
   cases x<;>simp only [Oper.uponIn]at h ⊢
   case value u=>exact ⟨dC a hy u,by rw [←Act.put_comm a v u h2];exact h⟩
   case skip=>exact ⟨dC a hy _,by rw [←Act.put_comm a v undef h2];exact h⟩
   case defer d=>
    refine ⟨dC _ (keepD d) _,?_⟩;rw [←Act.put_comm _ v undef h2,←Act.put_defers];exact h
   case enter f args=>
    refine ⟨h.1,CallsIn.mono h.2 fun e w'' he=>?_⟩;cases e with
    |returned u=>exact ⟨dC a hy u,by rw [←Act.put_comm a v u h2];exact he⟩
    |panicked c=>exact hQ _ _ _ he
    |outgrown=>exact he
   case row row args=>exact ⟨h.1,RowsIn.mono h.2 fun u w'' he=>⟨dC a hy u,by rw [←Act.put_comm a v u h2];exact he⟩⟩
   case round l f tmps assign body=>
    refine ⟨h.1,RoundIn.mono h.2 fun e w'' he=>?_⟩;cases e with
    |returned u=>exact ⟨dC a hy u,by rw [←Act.put_comm a v u h2];exact he⟩
    |panicked c=>exact hQ _ _ _ he
    |outgrown=>exact he
  |halt x w'=>
   cases x<;>simp only [Oper.uponIn]at h ⊢
   case panic u=>exact hQ _ _ _ h
 ·rename_i hw;simp only [hw]at h;exact ⟨fun _ _=>trivial,dC a hy _,by rw [←Act.put_comm a v undef h2];exact h.2⟩
theorem wo{i:Nat}{oi:Oper}{v:Value}(hi:ops[i]?=some oi)(FD:∀(j:Nat) (o:Oper),ops[j]?=some o→(∀cs b,o.op≠.select cs b)∧∀c,o.op≠.defer c) 
  (hQ:∀c a w,Q (.panic c) (a.put oi.dst v) w→Q (.panic c) a w):
  ∀(fuel:Nat) (listed:Array Bool) (a:Act) (w:World),mF md ops fin listed i=true→
   (∀j oj,ops[j]?=some oj→j≠i→listed.getD j true=false→(∀e∈oj.after,Region.binds md e=true→e.on≠i)→oi.apart ops oj=true)→
   i∈Region.ready md ops listed→YieldsIf P ops S oi v a→S w→
   eE ro P md ops Q S fin fuel (listed.setIfInBounds i true) (a.put oi.dst v) w→eE ro P md ops Q S fin (fuel+1) listed a w:=by
 intro fuel
 induction fuel with
 |zero=>
  intro listed a w _ _ hr hy hS H;refine ⟨fun h=>(by rw [h]at hr;cases hr),fun j hj=>?_⟩
  by_cases LU:j=i
  ·subst LU;exact YieldsIf.wpOpIn (FD _ _ hi).2 hi hy hS ⟨.inr hS,H⟩
  ·have:=ready_mono hj LU;rw [H.1]at this;cases this
 |succ fuel ih=>
  intro listed a w pK Mv hr hy hS H;refine ⟨fun h=>(by rw [h]at hr;cases hr),fun j hj=>?_⟩
  by_cases LU:j=i
  ·subst LU;exact YieldsIf.wpOpIn (FD _ _ hi).2 hi hy hS ⟨.inr hS,H⟩
  ·have h1:=H.2 j (ready_mono hj LU);obtain ⟨SH,oj,TA,mD⟩:=mem_ready.1 hj;have U3:∀e∈oj.after,Region.binds md e=true→e.on≠i:=fun e he hb heq=>by
    have h1:=mD e he hb;have h0:=(mem_ready.1 hr).1;rw [heq]at h1;rcases xA i listed.size with h'|h'
    ·simp [h']at h0 h1;rw [h0]at h1;cases h1
    ·simp [Array.getElem?_eq_none h']at h1
   have h2:=ux TA (Mv j oj TA LU SH U3) (FD i oi hi).1 (FD j oj TA).1 (FD j oj TA).2 hQ hy h1;have Nl:∀k ok,ops[k]?=some ok→k≠i→(listed.setIfInBounds j true).getD k true=false→
     (∀e∈ok.after,Region.binds md e=true→e.on≠i)→oi.apart ops ok=true:=fun k ok hk NT I0 WO=>by
    refine Mv k ok hk NT ?_ WO
    by_cases CB:j=k
    ·subst CB;exact SH
    ·rw [getD_set_ne true CB]at I0;exact I0
   refine wpOpIn_mono (fun a' w' h3=>?_) h2;have iG:S w':=by
    rcases h3.2.1 with hf|hs
    ·exact (AW pK hf hj (mem_ready.1 hr).1).elim
    ·exact hs
   refine ⟨.inr iG,ih (listed.setIfInBounds j true) a' w' (zl pK hj (mem_ready.1 hr).1) Nl (ready_mono hr (yM LU)) h3.1 iG ?_⟩;rw [Array.setIfInBounds_comm _ _ LU];exact h3.2.2
theorem yp{i:Nat}{oi:Oper}{v:Value}{fuel:Nat}{listed:Array Bool}{a:Act}{w:World}(hi:ops[i]?=some oi)
  (hs:be ops=true)(pK:mF md ops fin listed i=true)(hf:Region.free md ops listed i=true)(hr:(Region.ready md ops listed).contains i=true)
  (hQ:∀c a w,Q (.panic c) (a.put oi.dst v) w→Q (.panic c) a w)(hy:YieldsIf P ops S oi v a)(hS:S w)
  (h:eE ro P md ops Q S fin fuel (listed.setIfInBounds i true) (a.put oi.dst v) w):eE ro P md ops Q S fin (fuel+1) listed a w:=
 wo hi (sG hs) hQ fuel listed a w pK (Region.free_spec hi hf) (by simpa using hr) hy hS h
theorem qy{rs:List Nat}{fuel:Nat}{listed:Array Bool}{a:Act}{w:World}(hr:Region.ready md ops listed=rs)(dP:rs≠[])
  (h:∀i∈rs,wpOpIn (bJ ro) 0 P ops Q i (fun a' w'=>(i∈fin∨S w')∧eE ro P md ops Q S fin fuel (listed.setIfInBounds i true) a' w') a w):eE ro P md ops Q S fin (fuel+1) listed a w:=
 ⟨fun h0=>absurd (hr▸h0) dP,hr▸h⟩
theorem pE{listed:Array Bool}{a:Act}{w:World}(hr:Region.ready md ops listed=[])(h:Q .normal a w):∀fuel,eE ro P md ops Q S fin fuel listed a w
 |0=>⟨hr,h⟩
 |_+1=>⟨fun _=>h,by rw [hr];simp⟩
theorem AR{id:Nat}{a:Act}{w:World}(hm:P.follows .mixedOrders=true)
  (h:eE ro P .any ops Q S fin ops.size (Array.replicate ops.size false) a {w with drawn:=w.drawn+1}):(Code.region id ops true).wpIn (bJ ro) 0 P Q a w:=
 wpIn_region_any hm (q9 _ _ _ _ h)
end
def SJ(J:World→Prop)(w:World):Prop:=∃m,bS m w∧J m
def RH(P:Program)(ops:Array Oper)(Q:Exit→Act→World→Prop)(J:World→Prop)(fin:List Nat)(fuel:Nat)(listed:Array Bool)(n:Nat)(e:Env)(D:Fr)(m:World):Prop:=
 ∀a w,Fits n e D a→bS m w→J m→eE D.ro P .any ops Q (SJ J) fin fuel listed a w
def RF(P:Program)(ops:Array Oper)(Q:Exit→Act→World→Prop)(J:World→Prop)(fin:List Nat)(fuel:Nat)(listed:Array Bool)(n:Nat)(e:Env)(D:Fr)(m:World):Prop:=
 ∀a w,Fits n e D a→bS m w→eE D.ro P .any ops Q (SJ J) fin fuel listed a w
def ai(Q:Exit→Act→World→Prop):Prop:=∀(c:List PanicEntry) (a:Act) (w:World) (d:Option Tmp) (v:Value),Q (.panic c) (a.put d v) w→Q (.panic c) a w
theorem put_defers(a:Act)(d:Option Tmp)(v:Value):(a.put d v).defers=a.defers:=by cases d<;>rfl
theorem ai.body{P:Program}{fn:Func}{post:Ending→World→Prop}:ai (mb P fn post):=fun c a w d v h=>by
 obtain ⟨h1,h2⟩:=h;exact ⟨(put_defers a d v).symm.trans h1,h2⟩
def xb(listed:Array Bool):List Nat→Array Bool
 |[]=>listed
 |i::r=>xb (listed.setIfInBounds i true) r
def bq(ops:Array Oper)(fin:List Nat):Array Bool→List Nat→Bool
 |_,[]=>true
 |listed,i::r=>(mF .any ops fin listed i&&Region.free .any ops listed i)&&(Region.ready .any ops listed).contains i&&bq ops fin (listed.setIfInBounds i true) r
def iJ(T:Ty)(ops:Array Oper)(n:Nat):List Nat→Env→Option Env
 |[],e=>some e
 |i::r,e=>match ops[i]?with
  |some o=>match gd ops e o with
   |some true=>match pv T e o.op with
    |some v=>match aQ n o.dst v e with
     |some e'=>iJ T ops n r e'
     |none=>none
    |none=>none
   |some false=>match aQ n o.dst undef e with
    |some e'=>iJ T ops n r e'
    |none=>none
   |none=>none
  |none=>none
section
variable{P:Program} {T:Ty} {ops:Array Oper} {Q:Exit→Act→World→Prop} {J:World→Prop} {fin:List Nat} {fuel:Nat} {listed:Array Bool} {n:Nat} {e e':Env} {D:Fr} {m:World} {v:Value}
theorem WP.draw{id:Nat}{l:List Oper}(J:World→Prop)(fin:List Nat)(hm:P.follows .mixedOrders=true)(hJ:J m)(h:RH P l.toArray Q J fin l.length (Array.replicate l.length false) n e D m):WP P (.region id l.toArray true) Q n e D m:=
 fun a w hf hs=>AR (S:=SJ J) (fin:=fin) hm (by simpa using h a {w with drawn:=w.drawn+1} hf hs.drew hJ)
def calm(Q:Exit→Act→World→Prop):Exit→Act→World→Prop
 |.panic _,_,_=>False
 |ex,a,w=>Q ex a w
theorem ai.calm:ai (calm Q):=fun _ _ _ _ _ h=>h
theorem WP.calm{c:Code}{D:Fr}(h:WP P c (calm Q) n e D m):WP P c Q n e D m:=fun a w hf hs=>wpIn_mono (h a w hf hs) (fun ex a w hq=>by
 cases ex with
 |panic ch=>exact hq.elim
 |_=>exact hq)
theorem QN.calm{D:Fr}(h:QN Q .normal n e D m):QN (calm Q) .normal n e D m:=h
theorem ai.Qq{K:Act→World→Prop}(h:ai Q):ai (Exit.then K Q):=h
theorem ai.PH{id:Nat}(h:ai Q):ai (Exit.inBlock id Q):=h
theorem WP.dI{id:Nat}{l:List Oper}(J:World→Prop)(fin:List Nat)(hm:P.follows .mixedOrders=true)(hJ:J m)(hQ:ai Q)(h:ai Q→RH P l.toArray Q J fin l.length (Array.replicate l.length false) n e D m):WP P (.region id l.toArray true) Q n e D m:=WP.draw J fin hm hJ (h hQ)
theorem RH.take{i:Nat}{oi:Oper}(hi:ops[i]?=some oi)(hs:be ops=true)(XB:mF .any ops fin listed i=true∧Region.free .any ops listed i=true)(hr:(Region.ready .any ops listed).contains i=true)(hQ:ai Q)
  (hy:∀a,Fits n e D a→YieldsIf P ops (SJ J) oi v a)(hp:aQ n oi.dst v e=some e')(h:RH P ops Q J fin fuel (listed.setIfInBounds i true) n e' D m):RH P ops Q J fin (fuel+1) listed n e D m:=
 fun a w pf hw hj=>by
  exact yp hi hs XB.1 XB.2 hr (fun c a w hh=>hQ c a w _ _ hh) (hy a pf) ⟨m,hw,hj⟩ (h _ w (pf.put hp) hw hj)
theorem ie(hT:T.Ok P)(hs:be ops=true)(hQ:ai Q):∀(is:List Nat) (listed:Array Bool) (e e':Env),bq ops fin listed is=true→iJ T ops n is e=some e'→
  RH P ops Q J fin fuel (xb listed is) n e' D m→RH P ops Q J fin (fuel+is.length) listed n e D m
 |[],listed,e,e',_,h,hk=>by simp only [iJ,yJ]at h;subst h;exact hk
 |i::r,listed,e,e',hB,h,hk=>by
  simp only [bq,wR]at hB;unfold iJ at h
  split at h
  ·rename_i o ho
   split at h
   ·rename_i hg
    split at h
    ·rename_i v hv
     split at h
     ·rename_i e1 HB;exact RH.take ho hs hB.1.1 hB.1.2 hQ (fun a hf=>.inl ⟨cZ hf hg,fun w _=>r9 hT hf hv w⟩) HB (ie hT hs hQ r _ e1 e' hB.2 h hk)
     ·cases h
    ·cases h
   ·rename_i hg
    split at h
    ·rename_i e1 HB;exact RH.take ho hs hB.1.1 hB.1.2 hQ (fun a hf=>.inr ⟨cZ hf hg,rfl⟩) HB (ie hT hs hQ r _ e1 e' hB.2 h hk)
    ·cases h
   ·cases h
  ·cases h
theorem RH.pure(hT:T.Ok P)(hQ:ai Q)(is:List Nat)(hB:(be ops&&bq ops fin listed is)=true)(h:iJ T ops n is e=some e')(hk:RH P ops Q J fin fuel (xb listed is) n e' D m):RH P ops Q J fin (fuel+is.length) listed n e D m:=by
 simp only [wR]at hB;exact ie hT hB.1 hQ is listed e e' hB.2 h hk
theorem RH.load(hT:T.Ok P)(hQ:ai Q)(i:Nat){d:Option Tmp}{t ty:TypeId}{x:Operand}{pos:String}{aft:Array Edge}{g:Option (Nat×Bool)}{p:Addr}(hc:∀m',J m'→m'.cell? p=some v)
  (hi:ops[i]?=some ⟨d,.load t x,ty,pos,aft,g⟩)(hB:(be ops&&bq ops fin listed [i])=true)(hg:gd ops e ⟨d,.load t x,ty,pos,aft,g⟩=some true)(hx:e.ev x=some (.pointer (some p)))(ht:T.plain t=true)
  (hp:aQ n d v e=some e')(h:RH P ops Q J fin fuel (listed.setIfInBounds i true) n e' D m):RH P ops Q J fin (fuel+1) listed n e D m:=by
 simp only [bq,wR,wY]at hB;obtain ⟨r,hr,hk,ha,_⟩:=Ty.fu ht;refine RH.take hi hB.1 hB.2.1 hB.2.2 hQ (fun a hf=>.inl ⟨cZ hf hg,fun w ⟨m',hs,hj⟩=>?_⟩) hp h;have h1:=(hT.row hr).cD hk w;rw [ha]at h1;simp [execOp,hf.ev hx,Instr.loadAt,Instr.sureAddr,loadVar,h1,hs.cell,hc m' hj]
theorem RH.aJ(hT:T.Ok P)(hQ:ai Q)(i:Nat){d:Option Tmp}{t ty:TypeId}{x:Operand}{pos:String}{aft:Array Edge}{g:Option (Nat×Bool)}{p:Addr}(vs:List Value)(hc:∀m',J m'→∀j u,vs[j]?=some u→m'.cell? (p.add j)=some u)
  (hi:ops[i]?=some ⟨d,.load t x,ty,pos,aft,g⟩)(hB:(be ops&&bq ops fin listed [i])=true)(hg:gd ops e ⟨d,.load t x,ty,pos,aft,g⟩=some true)(hx:e.ev x=some (.pointer (some p)))(ht:T.jB t=some vs.length)
  (hp:aQ n d (.agg vs.toArray) e=some e')(h:RH P ops Q J fin fuel (listed.setIfInBounds i true) n e' D m):RH P ops Q J fin (fuel+1) listed n e D m:=by
 simp only [bq,wR,wY]at hB;obtain ⟨r,hr,ha,cz⟩:=Ty.ec ht;refine RH.take hi hB.1 hB.2.1 hB.2.2 hQ (fun a hf=>.inl ⟨cZ hf hg,fun w ⟨m',hs,hj⟩=>?_⟩) hp h;have h1:=(hT.row hr).cD (pW.cT ha) w;rw [ha]at h1;have h2:=(hT.row hr).bX w;rw [cz]at h2;have h3:=run_loadCells_list (P:=P) w p vs (fun j u hu=>(hs.cell _).trans (hc m' hj j u hu));simp [execOp,hf.ev hx,Instr.loadAt,Instr.sureAddr,loadVar,h1,h2,h3]
theorem RH.indexAddr(hT:T.Ok P)(hQ:ai Q)(i:Nat){d:Option Tmp}{t te ty:TypeId}{x y:Operand}{pos:String}{aft:Array Edge}{g:Option (Nat×Bool)}{ad:Addr}{len cap k:Nat}{j:Int}{kk:IntKind}{rt r:Row}
  (hi:ops[i]?=some ⟨d,.indexAddr t x y,ty,pos,aft,g⟩)(hB:(be ops&&bq ops fin listed [i])=true)(dD:T.row t=some rt)(hk:rt.k=.kb te)(hr:T.row te=some r)
  (hg:gd ops e ⟨d,.indexAddr t x y,ty,pos,aft,g⟩=some true)(hx:e.ev x=some (.slice (some ad) len cap))(hy:e.ev y=some (.int kk j))(hj:j=(k:Int))(aM:k<len)
  (hp:aQ n d (.pointer (some (ad.add (k*r.size)))) e=some e')(h:RH P ops Q J fin fuel (listed.setIfInBounds i true) n e' D m):RH P ops Q J fin (fuel+1) listed n e D m:=by
 simp only [bq,wR,wY]at hB;subst hj;have hu:=(hT.row dD).k;rw [hk]at hu;refine RH.take hi hB.1 hB.2.1 hB.2.2 hQ (fun a hf=>.inl ⟨cZ hf hg,fun w ⟨m',hs,hj⟩=>?_⟩) hp h;simp [execOp,hf.ev hx,hf.ev hy,Instr.indexAt,asIntOf,run_underlying hu,(hT.row hr).bX,aM]
def iK(ro:Option Nat)(P:Program)(ops:Array Oper)(Q:Exit→Act→World→Prop)(J:World→Prop)(fin:List Nat)(i:Nat)(fuel:Nat)(listed:Array Bool):Act→World→Prop:=fun a w=>(i∈fin∨SJ J w)∧eE ro P .any ops Q (SJ J) fin fuel listed a w
theorem RF.only(i:Nat){o:Oper}(hi:ops[i]?=some o)(hr:(Region.ready .any ops listed==[i])=true)(h:RL P ops (Exit.then (iK D.ro P ops Q J fin i fuel (listed.setIfInBounds i true)) Q) [o] n e D m):RF P ops Q J fin (fuel+1) listed n e D m:=by
 intro a w hf hw;have iQ:Region.ready .any ops listed=[i]:=eq_of_beq hr;refine qy iQ YA (fun i' hG=>?_);have:i'=i:=by simpa using hG
 subst this;have h1:=h a w hf hw;unfold wpOpIn;simp only [hi];unfold wpListIn at h1
 split
 ·rename_i HM;rw [yS HM]at h1;refine ⟨fun _ _=>trivial,?_⟩;have h1:=h1.2;change Oper.uponIn (bJ D.ro) 0 P o a _ _ ((Oper.semAt (bJ D.ro).round a.eval o).run P w)at h1;generalize (Oper.semAt (bJ D.ro).round a.eval o).run P w=r at*;cases r with
  |ok x w'=>
   cases x<;>simp only [Oper.uponIn]at h1 ⊢
   case value u=>exact h1
   case skip=>exact h1
   case defer d=>exact h1
   case enter f args=>
    refine ⟨h1.1,CallsIn.mono h1.2 fun e w'' he=>?_⟩;cases e with
    |returned u=>exact he
    |panicked c=>exact he
    |outgrown=>obtain ⟨a0,w0,h2⟩:=he;exact ⟨a0,w0,h2⟩
   case row row args=>exact ⟨h1.1,RowsIn.mono h1.2 fun u w'' he=>he⟩
   case round l f tmps assign body=>
    refine ⟨h1.1,RoundIn.mono h1.2 fun e w'' he=>?_⟩;cases e with
    |returned u=>exact he
    |panicked c=>exact he
    |outgrown=>obtain ⟨a0,w0,h2⟩:=he;exact ⟨a0,w0,h2⟩
  |halt x w'=>
   cases x<;>simp only [Oper.uponIn]at h1 ⊢
   case panic u=>exact h1
 ·rename_i HM;rw [zX HM]at h1;exact ⟨fun _ _=>trivial,h1.2⟩
theorem RH.only(i:Nat){o:Oper}(hi:ops[i]?=some o)(hr:(Region.ready .any ops listed==[i])=true)(h:J m→RL P ops (Exit.then (iK D.ro P ops Q J fin i fuel (listed.setIfInBounds i true)) Q) [o] n e D m):RH P ops Q J fin (fuel+1) listed n e D m:=
 fun a w hf hw hj=>RF.only i hi hr (h hj) a w hf hw
theorem RH.cont{i:Nat}(hj:J m)(h:RH P ops Q J fin fuel listed n e D m):QN (Exit.then (iK D.ro P ops Q J fin i fuel listed) Q) .normal n e D m:=fun a w hf hw=>⟨.inr ⟨m,hw,hj⟩,h a w hf hw hj⟩
theorem RF.cont{i:Nat}(hi:fin.contains i=true)(h:RF P ops Q J fin fuel listed n e D m):QN (Exit.then (iK D.ro P ops Q J fin i fuel listed) Q) .normal n e D m:=fun a w hf hw=>⟨.inl (by simpa using hi),h a w hf hw⟩
theorem RF.done(hr:(Region.ready .any ops listed).isEmpty=true)(h:QN Q .normal n e D m):RF P ops Q J fin fuel listed n e D m:=fun a w hf hw=>pE (by simpa using hr) (h a w hf hw) fuel
theorem RH.done(hr:(Region.ready .any ops listed).isEmpty=true)(h:J m→QN Q .normal n e D m):RH P ops Q J fin fuel listed n e D m:=fun a w hf hw hj=>pE (by simpa using hr) (h hj a w hf hw) fuel
theorem RF.last{i:Nat}(hB:(fin.contains i&&(Region.ready .any ops listed).isEmpty)=true)(h:QN Q .normal n e D m):QN (Exit.then (iK D.ro P ops Q J fin i fuel listed) Q) .normal n e D m:=by
 simp only [wR]at hB;exact RF.cont hB.1 (RF.done hB.2 h)
end
def Sx(P:Program)(f:FuncId)(args:List Value)(u:FrameMode)(m:World)(post:Ending→FrameMode→World→Prop):Prop:=
 dq P f∧∀w,bS m w→CallsD P f args.toArray u w fun e u' w'=>∃m',bS m' w'∧post e u' m'
def Lo:FrameMode→Value
 |.panicking ({v,recovered:=false,goexit:=false}::_)=>v
 |_=>.nilIface
def Ka:FrameMode→FrameMode
 |.panicking ({v,recovered:=false,goexit:=false}::older)=>.panicking ({v,recovered:=true}::older)
 |u=>u
theorem zi(c:Frame)(cs:List Frame):(recoverD (c::cs)=some (Lo c.mode,{c with mode:=Ka c.mode}::cs))∨(recoverD (c::cs)=none∧Lo c.mode=.nilIface∧Ka c.mode=c.mode):=by
 obtain ⟨fn,tmps,todo,defers,mode,kind,ro⟩:=c;cases mode with
 |panicking ch=>
  cases ch with
  |nil=>exact .inr ⟨rfl,rfl,rfl⟩
  |cons p older=>
   obtain ⟨v,r,g⟩:=p;cases r<;>cases g
   ·exact .inl rfl
   ·exact .inr ⟨rfl,rfl,rfl⟩
   ·exact .inr ⟨rfl,rfl,rfl⟩
   ·exact .inr ⟨rfl,rfl,rfl⟩
 |run=>exact .inr ⟨rfl,rfl,rfl⟩
 |returning=>exact .inr ⟨rfl,rfl,rfl⟩
section
variable{P:Program} {f:FuncId} {fn:Func} {args:List Value} {m:World} {u:FrameMode}
theorem oG(h:Nat.ble args.length fn.ntmps=true):Fits fn.ntmps (fL 0 args) ⟨[],none⟩ {tmps:=args.toArray++Array.replicate (fn.ntmps-args.toArray.size) undef,defers:=[]}:=
 ⟨by have:=yU h;simp;omega,rfl,fun t v ht=>by
  obtain ⟨_,h2⟩:=kx args 0 t v ht;simp only [Nat.sub_zero]at h2;have aM:t<args.length:=(yV.1 h2).1;rw [Array.getElem?_append_left (by simpa using aM)]
  simpa using h2⟩
theorem Sx.enter{c:Code}{id:Nat}{d:Tmp}{ts:Array TypeId}{ty:TypeId}{pos:String}{aft:Array Edge}{post:Ending→FrameMode→World→Prop}(hc:dq P f)
  (hf:P.funcs[f]?=some fn)(hb:fn.body=some (.seq (.region id #[⟨some d,.call ⟨.builtin .recover,#[],ts⟩,ty,pos,aft,none⟩] false) c))(hn:Nat.ble args.length fn.ntmps=true)(hd:Nat.blt d fn.ntmps=true)
  (h:WP P c (mb P fn fun e m'=>post e (Ka u) m') fn.ntmps ((d,Lo u)::fL 0 args) ⟨[],none⟩ m):Sx P f args u m post:=by
 refine ⟨hc,fun w hs=>callsD_of_wpS hf hb fun c₀ cs hu=>?_⟩;subst hu;refine wpS_seq (wpS_region ?_);have kE:∀(a:Act) (w:World),(execOp a.eval (⟨some d,.call ⟨.builtin .recover,#[],ts⟩,ty,pos,aft,none⟩:Oper)).run P w=.ok .recover w:=by
  intro a w;simp [execOp,resolve,invoke,builtin]
 have pK:∀cs',cs'={c₀ with mode:=Ka c₀.mode}::cs→
   c.wpS P (bodyPostS P fn c₀ cs fun e u' w'=>∃m',bS m' w'∧post e u' m') (Act.put {tmps:=args.toArray++Array.replicate (fn.ntmps-args.toArray.size) undef,defers:=[]} (some d) (Lo c₀.mode)) cs' w:=by
  intro cs' x9;refine wpS_of_wp (wp_mono (WP.wp h _ w ((oG hn).put (by simp [aQ,hd])) hs) fun ex a' w' hq=>?_);subst x9;cases ex with
  |normal=>obtain ⟨h1,v,h2,m',h3,h4⟩:=hq;exact ⟨h1,_,rfl,v,h2,m',h3,h4⟩
  |ret=>obtain ⟨h1,v,h2,m',h3,h4⟩:=hq;exact ⟨h1,_,rfl,v,h2,m',h3,h4⟩
  |panic ch=>obtain ⟨h1,m',h3,h4⟩:=hq;exact ⟨h1,_,rfl,m',h3,h4⟩
  |outgrown=>obtain ⟨m',h3,h4⟩:=hq;exact ⟨_,m',h3,h4⟩
  |exit id=>exact hq
  |goto l=>exact hq
 show wpOpsS P _ _ [0] _ _ _;unfold wpOpsS;simp only [List.getElem?_toArray,wZ,Region.wanted,yT,kE];rcases zi c₀ cs with hr|⟨hr,hv,hu⟩
 ·rw [hr];exact pK _ rfl
 ·rw [hr];simp only;have:=pK (c₀::cs) (by rw [hu]);rw [hv]at this;exact this
def HR(P:Program)(fn:Func)(post:Ending→World→Prop):Exit→Act→World→Prop:=bodyPostD P fn fun e w'=>∃m',bS m' w'∧post e m'
theorem aP.NW{c:Code}{post:Ending→World→Prop}(hc:dq P f)
  (hf:P.funcs[f]?=some fn)(hb:fn.body=some c)(hn:Nat.ble args.length fn.ntmps=true)(h:WP P c (HR P fn post) fn.ntmps (fL 0 args) ⟨[],none⟩ m):aP P f args m post:=
 ⟨hc,fun w hs=>calls_of_wp_defers hf hb (WP.wp h _ w (oG hn) hs)⟩
theorem RL.defer{ops:Array Oper}{Q:Exit→Act→World→Prop}{rest:List Oper}{n:Nat}{e e':Env}{ds:List Deferred}{d:Option Tmp}{x:Operand}{ts:Array TypeId}{ty:TypeId}{pos:String}{aft:Array Edge}{g:Option (Nat×Bool)}{k:Fn}{fi ca:Array Value}
  (hg:gd ops e ⟨d,.defer ⟨.value x,#[],ts⟩,ty,pos,aft,g⟩=some true)(hx:e.ev x=some (.func k fi ca))(hp:aQ n d undef e=some e')
  (h:RL P ops Q rest n e' ⟨{target:=.fn k ca,args:=fi}::ds,none⟩ m):RL P ops Q (⟨d,.defer ⟨.value x,#[],ts⟩,ty,pos,aft,g⟩::rest) n e ⟨ds,none⟩ m:=by
 refine RL.step hg fun a w hf hs=>⟨fun _ _=>trivial,?_⟩
 have:(execOp a.eval (⟨d,.defer ⟨.value x,#[],ts⟩,ty,pos,aft,g⟩:Oper)).run P w=.ok (.defer {target:=.fn k ca,args:=fi}) w:=by
  simp [execOp,resolve,hf.ev hx,Deferred.ofValue]
 show Oper.uponIn _ _ _ _ _ _ _ ((execOp a.eval (⟨d,.defer ⟨.value x,#[],ts⟩,ty,pos,aft,g⟩:Oper)).run P w);rw [this];have VA:Fits n e ⟨{target:=.fn k ca,args:=fi}::ds,none⟩ {a with defers:={target:=.fn k ca,args:=fi}::a.defers}:=⟨hf.size,by show _=_::ds;rw [hf.defers],hf.get⟩;exact h _ w (VA.put hp) hs
def bY(P:Program)(fn:Func)(n:Nat)(e:Env)(D:Fr)(m:World)(v:Value):Prop:=∀a w,Fits n e D a→bS m w→(results fn a.tmps).run P w=.ok v w
theorem bY.cell{T:Ty}(hT:T.Ok P){n:Nat}{e:Env}{D:Fr}{t:Tmp}{ty:TypeId}{p:Addr}{v:Value}(hr:fn.results=#[.cell t ty])(ht:e.get t=some (.pointer (some p)))(KN:T.plain ty=true)(hc:m.cell? p=some v):bY P fn n e D m v:=by
 intro a w hf hs;obtain ⟨r,iQ,hk,ha,_⟩:=Ty.fu KN;have h1:=(hT.row iQ).cD hk w;rw [ha]at h1;simp [results,hr,hf.get t _ ht,asAddr,loadVar,h1,hs.cell,hc]
theorem bY.tmp{n:Nat}{e:Env}{D:Fr}{t:Tmp}{v:Value}(hr:fn.results=#[.tmp t])(ht:e.get t=some v):bY P fn n e D m v:=by
 intro a w hf _;rw [results_tmp hr,dz (hf.get t v ht)]
theorem o6(hc:dq P f)(fi ca:Array Value)(w:World):(invoke (.fn (.func f) ca) fi).run P w=.ok (.enter f (fi++ca)) w:=by
 obtain ⟨fn,h1,h2,h3⟩:=hc;simp only [invoke,callFunc,Sem.run_bind,run_program,Result.andThen_ok,h1,h2,h3,wC,wE,Sem.run_pure]
theorem QN.leave{n:Nat}{e:Env}{x:Exit}{fi ca al:List Value}{post:Ending→World→Prop}{dpost:Ending→FrameMode→World→Prop}(hu:(x=.ret∧u=.returning)∨(x=.normal∧u=.returning)∨∃ch,x=.panic ch∧u=.panicking ch)
  (has:fi++ca=al)(hc:Sx P f al u m dpost)
  (UB:∀v u' m',dpost (.returned v) u' m'→(settle u'=.returning∧∃r,bY P fn n e ⟨[{target:=.fn (.func f) ca.toArray,args:=fi.toArray}],none⟩ m' r∧post (.returned r) m')∨∃ch,settle u'=.panicking ch∧post (.panicked ch) m')
  (Ns:∀ch u' m',dpost (.panicked ch) u' m'→∃ch',raised u' ch=.panicking ch'∧post (.panicked ch') m')(B2:∀u' m',¬dpost .outgrown u' m'):
  QN (HR P fn post) x n e ⟨[{target:=.fn (.func f) ca.toArray,args:=fi.toArray}],none⟩ m:=by
 intro a w hf hs;subst has;have key:Leaves P fn a.tmps (fun e w'=>∃m',bS m' w'∧post e m') a.defers u w:=by
  rw [hf.defers];have AX:u≠.run:=by rcases hu with⟨_,rfl⟩|⟨_,rfl⟩|⟨ch,_,rfl⟩<;>simp
  refine leaves_cons AX (o6 hc.1 _ _ w) ?_;have h1:=hc.2 w hs;rw [show(fi++ca).toArray=fi.toArray++ca.toArray by simp]at h1;refine h1.mono fun ed u' w' ⟨m',ud,hp⟩=>?_
  cases ed with
  |returned v=>
   rcases UB v u' m' hp with⟨h2,r,h3,h4⟩|⟨ch,h2,h4⟩
   ·simp only [h2];exact ⟨r,h3 a w' hf ud,m',ud,h4⟩
   ·simp only [h2];exact ⟨m',ud,h4⟩
  |panicked ch=>
   obtain ⟨ch',h2,h4⟩:=Ns ch u' m' hp;simp only [h2];exact ⟨m',ud,h4⟩
  |outgrown=>exact absurd hp (B2 u' m')
 rcases hu with⟨rfl,rfl⟩|⟨rfl,rfl⟩|⟨ch,rfl,rfl⟩
 ·exact key
 ·exact key
 ·exact key
end
structure Kc(B:Nat)(m m':World):Prop where
 os:m'.os=m.os
 tape:m'.tape=m.tape
 output:m'.output=m.output
 drawn:iF m.drawn m'.drawn
 size:m.heap.size≤m'.heap.size
 low:∀k,k<m.heap.size→k<B→m'.heap[k]?=m.heap[k]?
 cells:∀(k:Nat) (c:Array Value) (t:TypeId) (z:Nat×Nat),m.heap[k]?=some (Obj.cells c t z)→m'.heap[k]?=some (Obj.cells c t z)
def Kn(fx:Bool)(B:Nat)(m m':World):Prop:=∀(k:Nat) (o:Obj),B≤k→m.heap[k]?=some o→(fx=true∨o.isCells=false)→m'.heap[k]?=some o
section
variable{m m' m'':World} {B:Nat} {M:List Nat}
theorem Ext.kc(h:Ext m [] m'):Kc B m m':=⟨h.os,h.tape,h.output,h.drawn,h.size,fun k h1 _=>h.ej k h1 YA,fun k c t z hk=>(h.ej k (wI.1 hk).1 YA).trans hk⟩
theorem bw.kc{b:Nat}{t:TypeId}{cs:List Value}(h:bw m b t cs)(hK:Kc B m m'):bw m' b t cs:=hK.cells _ _ _ _ h
theorem Kc.cell(hK:Kc B m m'){a:Addr}{v:Value}(h:m.cell? a=some v):m'.cell? a=some v:=by
 unfold World.cell? at h ⊢
 split at h
 ·rename_i c t z hc;rw [hK.cells _ _ _ _ hc];exact h
 ·cases h
theorem Sl.kc{sz:Nat}{v:Value}{xs:List Value}(h:Sl m M sz v xs)(hK:Kc B m m'):Sl m' M sz v xs:=by
 obtain ⟨A,n,c,hv,ya,hc,hl,hA,hr⟩:=h;refine ⟨A,n,c,hv,ya,hc,hl,hA,fun hn=>?_⟩;obtain ⟨ad,iH,hb,bN⟩:=hr hn;exact ⟨ad,iH,hb,fun j u hu=>hK.cell (bN j u hu)⟩
theorem Own.kc{S:List Nat}{t:TypeId}{sz:Nat}{v:Value}{n:Nat}{xs:List Value}(h:Own m S t sz v n xs)(hK:Kc B m m'):Own m' S t sz v n xs:=by
 refine ⟨h.1,?_⟩;rcases h.2 with h1|⟨g,cap,cur,hv,hB,h1,h2,h3,h4,rfl⟩
 ·exact .inl h1
 ·exact .inr ⟨g,cap,cur,hv,hB.kc hK,h1,h2,h3,h4,rfl⟩
theorem Ext.Dp{m0:World}(h:Ext m0 M m)(hK:Kc B m m')(hB:m0.heap.size≤B):Ext m0 M m':=
 ⟨hK.os.trans h.os,hK.tape.trans h.tape,hK.output.trans h.output,wG h.size hK.size,fun k hk hn=>(hK.low k (wH hk h.size) (wH hk hB)).trans (h.ej k hk hn),h.drawn.trans hK.drawn⟩
theorem Ext.kn(h:Ext m M m')(hM:∀k∈M,B≤k→k<m.heap.size→∃(c:Array Value) (t:TypeId) (z:Nat×Nat),m.heap[k]?=some (Obj.cells c t z)):Kn false B m m':=fun k o hB hk ho=>by
 have aM:=(wI.1 hk).1;refine (h.ej k aM (fun hm=>?_)).trans hk;obtain ⟨c,t,z,hc⟩:=hM k hm hB aM;rw [hk]at hc;cases hc;rcases ho with ho|ho<;>cases ho
theorem Ext.Sm{fx:Bool}(h:Ext m M m')(hM:∀k∈M,B≤k→m.heap.size≤k):Kn fx B m m':=fun k o hB hk _=>by
 have aM:=(wI.1 hk).1;refine (h.ej k aM (fun hm=>?_)).trans hk;have:=hM k hm hB;omega
theorem Ext.XE{fx:Bool}(h:Ext m [] m'):Kn fx B m m':=h.Sm YA
theorem Own.cells{S:List Nat}{t:TypeId}{sz:Nat}{v:Value}{n:Nat}{xs:List Value}(h:Own m S t sz v n xs):∀k∈S,∃(c:Array Value) (t:TypeId) (z:Nat×Nat),m.heap[k]?=some (Obj.cells c t z):=by
 rcases h.2 with⟨_,_,_,rfl⟩|⟨g,_,cur,_,hB,_,_,_,_,rfl⟩
 ·simp
 ·intro k hk;have:k=g:=by simpa using hk
  subst this;exact ⟨_,_,_,hB⟩
theorem iW{l:Nat}{o o':Obj}(hl:m.heap[l]?=some o)(ho:o.isCells=false)(hB:B≤l):Kc B m (m.putObj l o'):=by
 refine ⟨rfl,rfl,rfl,iF.refl _,YA,fun k _ hk=>World.putObj_heap_other J9,fun k c t z hk=>?_⟩;rw [World.putObj_heap_other]
 ·exact hk
 ·intro h;subst h;rw [hl]at hk;cases hk;cases ho
theorem bS.putObj{w:World}(h:bS m w)(l:Nat)(o:Obj):bS (m.putObj l o) (w.putObj l o):=⟨by simp [World.putObj,h.heap],h.os,h.output,h.tape,h.drawn⟩
end
def Ut(P:Program)(l:Nat)(vs:List Value)(m:World)(post:Ending→World→Prop):Prop:=
 ∀w,bS m w→∃f tmps assign body,(Instr.yield l vs.toArray).run P w=.ok (.round l f tmps assign body) w∧RoundIn Fence.wide 0 P l f tmps assign body w fun e w'=>∃m',bS m' w'∧post e m'
section
variable{P:Program} {ops:Array Oper} {Q:Exit→Act→World→Prop} {rest:List Oper} {n:Nat} {e e':Env} {D:Fr} {m:World}
 {d:Option Tmp} {t ty:TypeId} {pos:String} {aft:Array Edge} {g:Option (Nat×Bool)} {v:Value}
theorem RL.yield{l:Nat}{fo:Operand}{xs:Array Operand}{ts:Array TypeId}{vs:List Value}{post:Ending→World→Prop}
  (hg:gd ops e ⟨d,.call ⟨.value fo,xs,ts⟩,ty,pos,aft,g⟩=some true)(nk:e.ev fo=some (.func (.yield l) #[] #[]))(fI:e.kj xs.toList=some vs)(hc:Ut P l vs m post)
  (h:∀v m',post (.returned v) m'→∃e',aQ n d v e=some e'∧RL P ops Q rest n e' D m')(Ns:∀ch m',¬post (.panicked ch) m')(B2:∀m',¬post .outgrown m'):
  RL P ops Q (⟨d,.call ⟨.value fo,xs,ts⟩,ty,pos,aft,g⟩::rest) n e D m:=by
 refine RL.run hg (fun _ hh=>by cases hh) fun a w hf hs=>?_
 obtain ⟨f,tmps,assign,body,hy,hr⟩:=hc w hs;have h1:xs.map a.eval=vs.toArray:=xO (by rw [xP];exact hf.kj fI);have kE:(execOp a.eval (⟨d,.call ⟨.value fo,xs,ts⟩,ty,pos,aft,g⟩:Oper)).run P w=.ok (.round l f tmps assign body) w:=by
  simp [execOp,resolve,hf.ev nk,Deferred.ofValue,invoke,h1,hy]
 rw [kE];refine ⟨(fun hh=>by cases hh),RoundIn.mono hr fun ed w' ⟨m',ud,hp⟩=>?_⟩;cases ed with
 |returned v=>
  obtain ⟨e',Bb,hk⟩:=h v m' hp;exact hk _ w' (hf.put Bb) ud
 |panicked ch=>exact absurd hp (Ns ch m')
 |outgrown=>exact absurd hp (B2 m')
end
def NA{α:Type}(P:Program)(gf:FuncId)(lb:List Value)(encs:α→List Value)(fx:Bool)(K:World→Prop)(V:List α→α→Prop)(S Sp:List α→Prop)(m:World):Prop:=
 ∀(l:Nat) (J Jx:List α→World→Prop) (m1:World),Ext m [] m1→(∀pre a b,J pre a→Ext a [] b→J pre b)→(∀pre a b,Jx pre a→Ext a [] b→Jx pre b)→(∀pre a,J pre a→K a)→
  (∀pre x a,J pre a→V pre x→Ut P l (encs x) a fun ed b=>(ed=.returned (.bool true)∧J (pre++[x]) b∧Kn fx m1.heap.size a b)∨(ed=.returned (.bool false)∧Jx (pre++[x]) b))→J [] m1→
  dg P gf (.func (.yield l) #[] #[]::lb) m1 fun _ m2=>(∃xs,S xs∧J xs m2)∨∃pre,Sp pre∧Jx pre m2
def pd(n:Nat):List Tmp→List Value→Env→Option Env
 |[],[],e=>some e
 |p::ps,v::vs,e=>match Nat.blt p n with
  |true=>pd n ps vs ((p,v)::e)
  |false=>none
 |_,_,_=>none
theorem u5{n:Nat}{ro:Option Nat}:∀(ps:List Tmp) (vs:List Value) (e e':Env) (tmps:Array Value),Fits n e ⟨[],ro⟩ {tmps,defers:=[]}→pd n ps vs e=some e'→
  Fits n e' ⟨[],ro⟩ {tmps:=(ps.zip vs).foldl (fun t (x:Tmp×Value)=>t.setIfInBounds x.1 x.2) tmps,defers:=[]}
 |[],[],e,e',tmps,hf,h=>by simp only [pd,yJ]at h;subst h;exact hf
 |p::ps,v::vs,e,e',tmps,hf,h=>by
  unfold pd at h
  split at h
  ·rename_i hp;have h1:=hf.put (dst:=some p) (v:=v) (e':=(p,v)::e) (by simp [aQ,hp]);exact u5 ps vs _ e' _ h1 h
  ·cases h
 |[],_::_,_,_,_,_,h=>by simp [pd]at h
 |_::_,[],_,_,_,_,h=>by simp [pd]at h
def IJ{α:Type}(fx:Bool)(B:Nat)(I:List α→World→Prop)(Ix:Code→List α→World→Prop)(pre:List α)(m2:World):Exit→Act→World→Prop
 |.normal,_,w=>∃m',bS m' w∧Kn fx B m2 m'∧I pre m'
 |.ret,_,w=>∃m',bS m' w∧Kn fx B m2 m'∧Ix .ret pre m'
 |.exit id,_,w=>∃m',bS m' w∧Kn fx B m2 m'∧Ix (.exit id) pre m'
 |_,_,_=>False
section
variable{α:Type} {fx:Bool} {B:Nat} {I:List α→World→Prop} {Ix:Code→List α→World→Prop} {pre:List α} {m2 m':World} {n:Nat} {e:Env} {D:Fr}
theorem QN.Ap(hk:Kn fx B m2 m')(hi:I pre m'):QN (IJ fx B I Ix pre m2) .normal n e D m':=fun _ _ _ hs=>⟨m',hs,hk,hi⟩
theorem QN.Gn{β:Type}{EA:β→Env}{IA:β→World→Prop}(y:β)(hs:Sub (EA y) e)(hk:Kn fx B m2 m')(hi:IA y m'):
  QN (Exit.then (fun a w=>∃y m',Fits n (EA y) D a∧bS m' w∧Kn fx B m2 m'∧IA y m') (fun _ _ _=>False)) .normal n e D m':=fun _ _ hf hw=>⟨y,m',hf.sub hs,hw,hk,hi⟩
end
theorem WP.rangeFunc{α β:Type}{P:Program}{Q:Exit→Act→World→Prop}{n:Nat}{e:Env}{ds:List Deferred}{m:World}{g:Operand}{ps:List Tmp}{assign body:Code}{gf:FuncId}{lb:List Value}{fx:Bool}{K:World→Prop}{V:List α→α→Prop}{S Sp:List α→Prop}
  (encs:α→List Value)(hg:e.ev g=some (.func (.func gf) #[] lb.toArray))(VQ:NA P gf lb encs fx K V S Sp m)(UH:dq P gf)
  (I:List α→World→Prop)(Ix:Code→List α→World→Prop)(hI:∀pre a b,I pre a→Kc m.heap.size a b→I pre b)(KW:∀c pre a b,Ix c pre a→Kc m.heap.size a b→Ix c pre b)(Yq:∀pre a,I pre a→K a)(h0:I [] m)
  (E:α→Env)(hE:∀x,pd n ps (encs x) e=some (E x))(sU:∀x,(encs x).length=ps.length)
  (EA:α→β→Env)(IA:List α→α→β→World→Prop)(X5:∀pre x y a b,IA pre x y a→Kc m.heap.size a b→IA pre x y b)
  (p8:∀l pre x m1,I pre m1→V pre x→m.heap.size≤m1.heap.size→WP P assign (Exit.then (fun a w=>∃y m2,Fits n (EA x y) ⟨[],some l⟩ a∧bS m2 w∧Kn fx m.heap.size m1 m2∧IA pre x y m2) (fun _ _ _=>False)) n (E x) ⟨[],some l⟩ m1)
  (CG:∀l pre x y m2,IA pre x y m2→V pre x→m.heap.size≤m2.heap.size→WP P body (IJ fx m.heap.size I Ix (pre++[x]) m2) n (EA x y) ⟨[],some l⟩ m2)
  (DK:∀D xs m',m.heap.size≤D→S xs→I xs m'→m'.heap[D]?=some (.deferred (some []))→QN Q .normal n e ⟨{target:=.collected D,args:=#[]}::ds,none⟩ m')
  (Da:∀D c pre m',m.heap.size≤D→Sp pre→Ix c pre m'→m'.heap[D]?=some (.deferred (some []))→WP P c Q n e ⟨{target:=.collected D,args:=#[]}::ds,none⟩ m'):
  WP P (.rangeFunc g ps.toArray assign body) Q n e ⟨ds,none⟩ m:=by
 intro a w hf hw;refine wpIn_rangeFunc (F:=bJ none) ?_;intro fn _;obtain ⟨B,hB⟩:∃B,m.heap.size=B:=⟨_,rfl⟩;rw [hB]at hI KW X5 p8 CG DK Da;have cz:w.heap.size=B:=by rw [hw.heap,hB]
 obtain ⟨rec,ji⟩:=zP (fun st pe=>{state:=st,pending:=pe,fn,tmps:=a.tmps,params:=ps.toArray,assign,body,defers:=B}:LoopState→Option Code→Loop);obtain ⟨mW,MS⟩:=zP ((m.alloc (.deferred (some []))).alloc (.loop (rec .ready none)));have WS:bS mW ((w.alloc (.deferred (some []))).alloc (.loop (rec .ready none))):=by rw [MS];exact (hw.alloc _).alloc _
 have dd:Ext m [] mW:=by
  rw [MS];exact ((gD.alloc m _).new (yP _)).trans ((gD.alloc _ _).new (yP _)) YA
 have YX:mW.heap[B+1]?=some (.loop (rec .ready none)):=by
  rw [MS];have:=World.alloc_heap_new (m.alloc (.deferred (some []))) (.loop (rec .ready none));rwa [World.size_alloc,hB]at this
 have X8:mW.heap[B]?=some (.deferred (some [])):=by
  rw [MS,←hB];exact (Below.heap_alloc _ _ _ YA).trans (World.alloc_heap_new m _)
 have PX:a.eval g=.func (.func gf) #[] lb.toArray:=hf.ev hg;refine ⟨B+1,[{target:=.collected B,args:=#[]}],(w.alloc (.deferred (some []))).alloc (.loop (rec .ready none)),{target:=.fn (.func gf) lb.toArray,args:=#[.func (.yield (B+1)) #[] #[]]},(w.alloc (.deferred (some []))).alloc (.loop (rec .ready none)),gf,
  #[.func (.yield (B+1)) #[] #[]]++lb.toArray,(w.alloc (.deferred (some []))).alloc (.loop (rec .ready none)),?_,?_,fun _ _=>trivial,?_,fun hh=>(by cases hh),?_⟩
 ·have:=run_enterLoop_outer (P:=P) (w:=w) fn a.tmps ps.toArray assign body;rw [cz]at this;rw [ji];exact this
 ·simp only [resolve,PX];simp [go_sem]
 ·exact o6 UH _ _ _
 ·
  have fO:=VQ (B+1)
   (fun pre c=>I pre c∧c.heap[B+1]?=some (.loop (rec .ready none))∧c.heap[B]?=some (.deferred (some [])))
   (fun pre c=>∃j,Ix j pre c∧c.heap[B+1]?=some (.loop (rec .done (some j)))∧c.heap[B]?=some (.deferred (some [])))
   mW dd
   (fun pre c c' ⟨h1,h2,h3⟩ hE=>⟨hI pre c c' h1 hE.kc,(hE.ej _ (wI.1 h2).1 YA).trans h2,(hE.ej _ (wI.1 h3).1 YA).trans h3⟩)
   (fun pre c c' ⟨j,h1,h2,h3⟩ hE=>⟨j,KW j pre c c' h1 hE.kc,(hE.ej _ (wI.1 h2).1 YA).trans h2,(hE.ej _ (wI.1 h3).1 YA).trans h3⟩)
   (fun pre c ⟨h1,_⟩=>Yq pre c h1)
   ?_ ⟨hI [] m mW h0 dd.kc,YX,X8⟩
  ·have hc:=Calls.fr ⟨[],none⟩ (0-1) (fO.2 _ WS);have iB:(Value.func (Fn.yield (B+1)) #[] #[]::lb).toArray=#[.func (.yield (B+1)) #[] #[]]++lb.toArray:=by simp
   rw [iB]at hc;refine CallsIn.mono hc ?_;rintro ed w2 ⟨m2,xz,v,rfl,⟨xs,hS,hi,hl,hk⟩|⟨pre,Zf,j,hi,hl,hk⟩⟩
   ·have vg:w2.heap[B+1]?=some (.loop (rec .ready none)):=by rw [xz.heap];exact hl
    have j0:=run_endLoop (P:=P) vg (by rw [ji];simp);refine ⟨none,w2.putObj (B+1) (.loop {rec .ready none with state:=.exhausted}),by rw [j0,ji],?_⟩;have hq:=DK B xs (m2.putObj (B+1) (.loop {rec .ready none with state:=.exhausted})) (yP _) hS (hI xs m2 _ hi (iW hl rfl J9)) ((World.putObj_heap_other J9).trans hk);exact hq _ _ ⟨hf.size,by show _++_=_::ds;rw [hf.defers];rfl,hf.get⟩ (xz.putObj _ _)
   ·have vg:w2.heap[B+1]?=some (.loop (rec .done (some j))):=by rw [xz.heap];exact hl
    have j0:=run_endLoop (P:=P) vg (by rw [ji];simp);refine ⟨some j,w2.putObj (B+1) (.loop {rec .done (some j)with state:=.exhausted}),by rw [j0,ji],?_⟩;have hq:=Da B j pre (m2.putObj (B+1) (.loop {rec .done (some j)with state:=.exhausted})) (yP _) Zf (KW j pre m2 _ hi (iW hl rfl J9)) ((World.putObj_heap_other J9).trans hk);exact hq _ _ ⟨hf.size,by show _++_=_::ds;rw [hf.defers];rfl,hf.get⟩ (xz.putObj _ _)
  ·
   rintro pre x c ⟨hi,hl,hk⟩ hlen wc OM;have UU:wc.heap[B+1]?=some (.loop (rec .ready none)):=by rw [OM.heap];exact hl
   have hy:=run_yield (P:=P) (args:=(encs x).toArray) UU (by rw [ji];simpa using sU x);rw [ji]at hy;refine ⟨fn,_,assign,body,hy,roundIn_of_wpIn (n:=0) trivial ?_⟩;clear hy;have L6:Fits n (E x) ⟨[],some (B+1)⟩ {tmps:=(ps.zip (encs x)).foldl (fun t (x:Tmp×Value)=>t.setIfInBounds x.1 x.2) a.tmps,defers:=[]}:=
    u5 ps (encs x) e (E x) a.tmps ⟨hf.size,rfl,hf.get⟩ (hE x)
   have OO:B≤c.heap.size:=by have:=(wI.1 hl).1;omega
   have has:=p8 (B+1) pre x c hi hlen OO _ wc L6 OM;have Nt:(ps.toArray.zip (encs x).toArray).foldl (fun tmps (t,a)=>tmps.setIfInBounds t a) a.tmps=(ps.zip (encs x)).foldl (fun t (x:Tmp×Value)=>t.setIfInBounds x.1 x.2) a.tmps:=by
    simp [List.zip_toArray]
   rw [Nt];refine wpIn_mono has ?_;intro ex a1 w1 hq;cases ex with
   |normal=>
    obtain ⟨y,c1,IT,qo,O7,Ws⟩:=hq;have sI:=O7 _ _ J9 hl (.inr rfl);have BA:=O7 _ _ (yP _) hk (.inr rfl);have PJ:w1.heap[B+1]?=some (.loop (rec .ready none)):=by rw [qo.heap];exact sI
    refine ⟨_,run_beginRound PJ (by rw [ji]),?_⟩;have UA:=(wI.1 sI).1;obtain ⟨c2,jT⟩:=zP (c1.putObj (B+1) (.loop {rec .ready none with state:=.busy}));have zy:c2.heap[B+1]?=some (.loop {rec .ready none with state:=.busy}):=by rw [jT];exact World.putObj_heap_same UA
    have sL:c2.heap[B]?=some (.deferred (some [])):=by rw [jT];exact (World.putObj_heap_other J9).trans BA
    have xz:bS c2 (w1.putObj (B+1) (.loop {rec .ready none with state:=.busy})):=by rw [jT];exact qo.putObj _ _
    have WR:IA pre x y c2:=by rw [jT];exact X5 pre x y c1 _ Ws (iW sI rfl J9)
    have Hn:B≤c2.heap.size:=by have:=(wI.1 zy).1;omega
    have hb:=CG (B+1) pre x y c2 WR hlen Hn _ _ IT xz;refine wpIn_mono hb ?_;have fin:∀(jump:Option Code) (c3 w3:World),bS c3 w3→Kn fx B c2 c3→
      (Instr.endRound (B+1) jump).run P w3=.ok (.bool jump.isNone) (w3.putObj (B+1) (.loop (rec (if jump.isNone then .ready else .done) jump)))∧
      Kc B c3 (c3.putObj (B+1) (.loop (rec (if jump.isNone then .ready else .done) jump)))∧
      (c3.putObj (B+1) (.loop (rec (if jump.isNone then .ready else .done) jump))).heap[B+1]?=some (.loop (rec (if jump.isNone then .ready else .done) jump))∧
      (c3.putObj (B+1) (.loop (rec (if jump.isNone then .ready else .done) jump))).heap[B]?=some (.deferred (some [])):=fun jump c3 w3 pU SK=>by
     have Wb:=SK _ _ J9 zy (.inr rfl);have IK:=SK _ _ (yP _) sL (.inr rfl);have Ou:w3.heap[B+1]?=some (.loop {rec .ready none with state:=.busy}):=by rw [pU.heap];exact Wb
     have j0:=run_endRound (P:=P) jump Ou;rw [ji]at j0 ⊢;exact ⟨j0,iW Wb rfl J9,World.putObj_heap_same (wI.1 Wb).1,(World.putObj_heap_other J9).trans IK⟩
    intro ex3 a3 w3 Ej;cases ex3 with
    |normal=>
     obtain ⟨c3,pU,D5,GH⟩:=Ej;obtain ⟨h1,h2,h3,h4⟩:=fin none c3 w3 pU D5;exact ⟨_,_,h1,_,pU.putObj _ _,.inl ⟨rfl,⟨hI _ c3 _ GH h2,h3,h4⟩,fun k o BA sL SK=>by
      have hWs:mW.heap.size=B+2:=by rw [MS,World.size_alloc,World.size_alloc,hB]
      exact (World.putObj_heap_other J9).trans (D5 k o J9 (by rw [jT];exact (World.putObj_heap_other J9).trans (O7 k o J9 sL SK)) SK)⟩⟩
    |ret=>
     obtain ⟨c3,pU,D5,GH⟩:=Ej;obtain ⟨h1,h2,h3,h4⟩:=fin (some .ret) c3 w3 pU D5;exact ⟨_,_,h1,_,pU.putObj _ _,.inr ⟨rfl,_,KW _ _ c3 _ GH h2,h3,h4⟩⟩
    |exit id=>
     obtain ⟨c3,pU,D5,GH⟩:=Ej;obtain ⟨h1,h2,h3,h4⟩:=fin (some (.exit id)) c3 w3 pU D5;exact ⟨_,_,h1,_,pU.putObj _ _,.inr ⟨rfl,_,KW _ _ c3 _ GH h2,h3,h4⟩⟩
    |goto t=>exact Ej.elim
    |panic ch=>exact Ej.elim
    |outgrown=>exact Ej.elim
   |exit id=>exact hq.elim
   |goto t=>exact hq.elim
   |ret=>exact hq.elim
   |panic ch=>exact hq.elim
   |outgrown=>exact hq.elim
theorem WP.scope{P:Program}{c:Code}{Q:Exit→Act→World→Prop}{n:Nat}{e:Env}{ds:List Deferred}{m:World}(h:WP P c (Exit.noGoto Q) n e ⟨ds,none⟩ m):WP P (.scope c) Q n e ⟨ds,none⟩ m:=
 WP.of_wp fun a w hf hs=>wp_scope_straight (WP.wp h a w hf hs)
theorem WP.label{P:Program}{l:Nat}{Q:Exit→Act→World→Prop}{n:Nat}{e:Env}{D:Fr}{m:World}(h:QN Q .normal n e D m):WP P (.label l) Q n e D m:=fun a w hf hs=>wpIn_label (h a w hf hs)
theorem QN.oT{Q:Exit→Act→World→Prop}{n:Nat}{e:Env}{D:Fr}{m:World}(h:QN Q .ret n e D m):QN (Exit.noGoto Q) .ret n e D m:=h
def oE(P:Program)(fn:Func)(post:Ending→World→Prop):Exit→Act→World→Prop:=bodyPostM Fence.wide 0 P fn fun e w'=>∃m',bS m' w'∧post e m'
theorem aP.OT{P:Program}{f:FuncId}{fn:Func}{c:Code}{args:List Value}{m:World}{post:Ending→World→Prop}(hc:dq P f)
  (hf:P.funcs[f]?=some fn)(hb:fn.body=some c)(hn:Nat.ble args.length fn.ntmps=true)(h:WP P c (oE P fn post) fn.ntmps (fL 0 args) ⟨[],none⟩ m):aP P f args m post:=
 ⟨hc,fun w hs=>(callsIn_wide (n:=0)).1 (callsIn_of_wp_marks hf hb trivial (h _ w (oG hn) hs))⟩
theorem aP.zB{P:Program}{f:FuncId}{fn:Func}{c:Code}{args:List Value}{m:World}{post:Ending→World→Prop}(hf:P.funcs[f]?=some fn)(h:WP P c (oE P fn post) fn.ntmps (fL 0 args) ⟨[],none⟩ m)(h1:(fn.name== "runtime.NumGoroutine")=false:=by kernel_rfl)(h2:fn.body.isNone=false:=by kernel_rfl)(hb:fn.body=some c:=by exact rfl)(hn:Nat.ble args.length fn.ntmps=true:=by exact rfl):aP P f args m post:=aP.OT ⟨_,hf,h1,h2⟩ hf hb hn h
theorem QN.F9{P:Program}{fn:Func}{post:Ending→World→Prop}{n:Nat}{e:Env}{m:World}{Dk:Nat}{r:Value}{x:Exit}(hx:x=.ret∨x=.normal)(hk:m.heap[Dk]?=some (.deferred (some [])))
  (h:∀m',Kc Dk m m'→(∀k,k≠Dk→m'.heap[k]?=m.heap[k]?)→bY P fn n e ⟨[{target:=.collected Dk,args:=#[]}],none⟩ m' r∧post (.returned r) m'):
  QN (oE P fn post) x n e ⟨[{target:=.collected Dk,args:=#[]}],none⟩ m:=by
 intro a w hf hs;have Qm:w.heap[Dk]?=some (.deferred (some [])):=by rw [hs.heap];exact hk
 have key:LeavesInM Fence.wide 0 P fn a.tmps (fun e w'=>∃m',bS m' w'∧post e m') a.defers .returning w:=by
  rw [hf.defers];refine ⟨YA,.inl ⟨Dk,_,rfl,run_takeDeferred Qm,?_⟩⟩;obtain ⟨h1,h2⟩:=h (m.putObj Dk (.deferred none)) (iW hk rfl (yP _)) (fun k hk=>World.putObj_heap_other hk);exact ⟨r,h1 a _ hf (hs.putObj _ _),_,hs.putObj _ _,h2⟩
 rcases hx with rfl|rfl
 ·exact key
 ·exact key
theorem QN.ng{P:Program}{fn:Func}{post:Ending→World→Prop}{n:Nat}{e:Env}{m:World}{r:Value}{x:Exit}(hx:x=.ret∨x=.normal)
  (h1:bY P fn n e ⟨[],none⟩ m r)(h2:post (.returned r) m):QN (oE P fn post) x n e ⟨[],none⟩ m:=by
 intro a w hf hs;have key:LeavesInM Fence.wide 0 P fn a.tmps (fun e w'=>∃m',bS m' w'∧post e m') a.defers .returning w:=by
  rw [hf.defers];exact ⟨r,h1 a w hf hs,m,hs,h2⟩
 rcases hx with rfl|rfl
 ·exact key
 ·exact key
section
variable{P:Program} {ops:Array Oper} {Q:Exit→Act→World→Prop} {J:World→Prop} {fin:List Nat} {fuel:Nat} {listed:Array Bool} {rest:List Oper} {n:Nat} {e e':Env} {D:Fr} {ds:List Deferred} {m:World}
 {d:Option Tmp} {x y:Operand} {t yt ty:TypeId} {pos:String} {aft:Array Edge} {g:Option (Nat×Bool)} {op:BinOp} {a b v:Value}
theorem tZ(hr:∀w,(binOp op t a b).run P w=.ok v w)(hq:∀w,(eqGuard op t x y a b).run P w=.ok () w){ac:Act}(hf:Fits n e D ac)(hx:e.ev x=some a)(hy:e.ev y=some b)(w:World):
  (execOp ac.eval (⟨d,.binOp op t x y yt,ty,pos,aft,g⟩:Oper)).run P w=.ok (.value v) w:=by
 unfold execOp;simp [hf.ev hx,hf.ev hy,hr,hq]
theorem RL.binOp(hr:∀w,(Go.binOp op t a b).run P w=.ok v w)(hq:∀w,(eqGuard op t x y a b).run P w=.ok () w)(hg:gd ops e ⟨d,.binOp op t x y yt,ty,pos,aft,g⟩=some true)(hx:e.ev x=some a)(hy:e.ev y=some b)
  (hp:aQ n d v e=some e')(h:RL P ops Q rest n e' D m):RL P ops Q (⟨d,.binOp op t x y yt,ty,pos,aft,g⟩::rest) n e D m:=
 RL.value v hg (fun _ w hf _=>tZ hr hq hf hx hy w) hp h
theorem RH.binOp(hr:∀w,(Go.binOp op t a b).run P w=.ok v w)(hq:∀w,(eqGuard op t x y a b).run P w=.ok () w)(hQ:ai Q)(i:Nat)(hi:ops[i]?=some ⟨d,.binOp op t x y yt,ty,pos,aft,g⟩)(hB:(be ops&&bq ops fin listed [i])=true)
  (hg:gd ops e ⟨d,.binOp op t x y yt,ty,pos,aft,g⟩=some true)(hx:e.ev x=some a)(hy:e.ev y=some b)
  (hp:aQ n d v e=some e')(h:RH P ops Q J fin fuel (listed.setIfInBounds i true) n e' D m):RH P ops Q J fin (fuel+1) listed n e D m:=by
 simp only [bq,wR,wY]at hB;exact RH.take hi hB.1 hB.2.1 hB.2.2 hQ (fun ac hf=>.inl ⟨cZ hf hg,fun w _=>tZ hr hq hf hx hy w⟩) hp h
end
end Go.Ev
namespace Go.Ev
section
open Go.RowKit
variable{m m':World} {M:List Nat} {sz n c:Nat} {v:Value} {A:Option Addr} {xs:List Value}
theorem Sl.shape{n:Nat}(h:Sl m M sz v xs)(hn:xs.length=n*sz)(cz:0<sz):∃A c,v=.slice A n c∧n≤c∧c≤maxLen:=by
 obtain ⟨A,n',c,hv,ya,hc,hl,_,_⟩:=h;have:n'=n:=Nat.eq_of_mul_eq_mul_right cz (hl.symm.trans hn);subst this;exact ⟨A,c,hv,ya,hc⟩
theorem Sl.len(h:Sl m M sz (.slice A n c) xs):xs.length=n*sz∧n≤c∧c≤maxLen:=by
 obtain ⟨A',n',c',hv,ya,hc,hl,_,_⟩:=h
 injection hv with h1 h2 h3
 subst h1;subst h2;subst h3;exact ⟨hl,ya,hc⟩
theorem Sl.one(h:Sl m M sz v xs):v.oneCell'=true:=by
 obtain ⟨A,n',c,rfl,_⟩:=h;rfl
theorem Sl.addr(h:Sl m M sz (.slice A n c) xs)(hn:0<n):∃ad,A=some ad∧ad.block∉M∧∀j u,xs[j]?=some u→m.cell? (ad.add j)=some u:=by
 obtain ⟨A',n',c',hv,ya,hc,hl,hA,hr⟩:=h
 injection hv with h1 h2 h3
 subst h1;subst h2;subst h3;exact hr hn
theorem Sl.from_(h:Sl m M sz (.slice A n c) xs){l:Nat}(hl:l≤n):Sl m M sz (.slice (if c=l then A else A.map (·.add (l*sz))) (n-l) (c-l)) (xs.drop (l*sz)):=by
 obtain ⟨A',n',c',hv,ya,hc,hlen,hA,hr⟩:=h
 injection hv with h1 h2 h3
 subst h1;subst h2;subst h3;refine ⟨_,n-l,c-l,rfl,J9,J9,by rw [zZ,hlen,Nat.sub_mul],fun hn=>?_,fun hn=>?_⟩
 ·split at hn
  ·omega
  ·cases A with
   |none=>have:=hA rfl;omega
   |some a=>cases hn
 ·obtain ⟨ad,rfl,hb,bN⟩:=hr J9;rw [zX J9];refine ⟨ad.add (l*sz),rfl,by rw [block_add];exact hb,fun j u hu=>?_⟩;rw [add_add];exact bN _ u (by rw [←hu,vA])
theorem Sl.upto(h:Sl m M sz (.slice A n c) xs){l k:Nat}(hl:l≤n)(hk:l≤k)(W3:k≤c):Sl m M sz (.slice A l k) (xs.take (l*sz)):=by
 obtain ⟨A',n',c',hv,ya,hc,hlen,hA,hr⟩:=h
 injection hv with h1 h2 h3
 subst h1;subst h2;subst h3;refine ⟨A,l,k,rfl,hk,J9,?_,fun hn=>by have:=hA hn;omega,fun hn=>?_⟩
 ·rw [yA,hlen];exact zR (wP _ hl)
 ·obtain ⟨ad,rfl,hb,bN⟩:=hr J9;refine ⟨ad,rfl,hb,fun j u hu=>bN j u ?_⟩;rw [xV]at hu
  split at hu
  ·exact hu
  ·cases hu
end
section
open Go.RowKit
variable{P:Program} {T:Ty} {ops:Array Oper} {Q:Exit→Act→World→Prop} {rest:List Oper} {n:Nat} {e e':Env} {D:Fr} {m:World} {M:List Nat}
 {d:Option Tmp} {x y:Operand} {t ty tx:TypeId} {pos:String} {aft:Array Edge} {g:Option (Nat×Bool)} {v:Value} {r:Row} {A:Option Addr} {len cap:Nat}
def Ty.fJ(T:Ty)(t:TypeId):Option Nat:=match T.row t with
 |some rt=>match rt.k with
  |.kb te=>match T.row te with
   |some r=>some r.size
   |none=>none
  |_=>none
 |none=>none
theorem Ty.mT{T:Ty}{t:TypeId}{s:Nat}(h:T.fJ t=some s):∃rt te r,T.row t=some rt∧rt.k=.kb te∧T.row te=some r∧r.size=s:=by
 unfold Ty.fJ at h
 split at h
 ·rename_i rt dD
  split at h
  ·rename_i te hk
   split at h
   ·rename_i r hr;exact ⟨rt,te,r,dD,hk,hr,yR h⟩
   ·cases h
  ·cases h
 ·cases h
theorem eF(hT:T.Ok P){s:Nat}(hs:T.fJ t=some s)(w:World):∃te,P.underlying t=some (.slice te)∧(sizeOf te).run P w=.ok s w:=by
 obtain ⟨rt,te,r,dD,hk,hr,rfl⟩:=Ty.mT hs;have hu:=(hT.row dD).k;rw [hk]at hu;exact ⟨te,hu,(hT.row hr).bX w⟩
theorem RL.sliceFrom(hT:T.Ok P){s l:Nat}{k:IntKind}{j:Int}(hs:T.fJ t=some s)(hg:gd ops e ⟨d,.slice t x (some y) none none,ty,pos,aft,g⟩=some true)(hx:e.ev x=some (.slice A len cap))(hy:e.ev y=some (.int k j))(hj:j=(l:Int))(hl:l≤len)
  (hp:aQ n d (.slice (if cap=l then A else A.map (·.add (l*s))) (len-l) (cap-l)) e=some e')(h:RL P ops Q rest n e' D m):RL P ops Q (⟨d,.slice t x (some y) none none,ty,pos,aft,g⟩::rest) n e D m:=by
 subst hj;refine RL.value _ hg (fun a w hf _=>?_) hp h;obtain ⟨te,hu,cz⟩:=eF hT hs w;simp [execOp,hf.ev hx,hf.ev hy,Instr.sliceAt,Instr.slice,Instr.sliceBounds,Instr.sliceBound,asIntOf,run_underlying hu,cz,hl]
theorem RL.sliceTo(hT:T.Ok P){s l:Nat}{k:IntKind}{j:Int}(hs:T.fJ t=some s)(hg:gd ops e ⟨d,.slice t x none (some y) none,ty,pos,aft,g⟩=some true)(hx:e.ev x=some (.slice A len cap))(hy:e.ev y=some (.int k j))(hj:j=(l:Int))(hl:l≤cap)
  (hp:aQ n d (.slice A l cap) e=some e')(h:RL P ops Q rest n e' D m):RL P ops Q (⟨d,.slice t x none (some y) none,ty,pos,aft,g⟩::rest) n e D m:=by
 subst hj;refine RL.value _ hg (fun a w hf _=>?_) hp h;obtain ⟨te,hu,cz⟩:=eF hT hs w;have hA:(if cap=0 then A else A.map (·.add 0))=A:=by split<;>cases A<;>simp [Addr.add]
 simp [execOp,hf.ev hx,hf.ev hy,Instr.sliceAt,Instr.slice,Instr.sliceBounds,Instr.sliceBound,asIntOf,run_underlying hu,cz,hl,hA]
theorem RL.KA(hT:T.Ok P){z:Operand}{s l q:Nat}{k k':IntKind}{j j':Int}(hs:T.fJ t=some s)(hg:gd ops e ⟨d,.slice t x (some y) (some z) none,ty,pos,aft,g⟩=some true)(hx:e.ev x=some (.slice A len cap))(hy:e.ev y=some (.int k j))(hz:e.ev z=some (.int k' j'))(hj:j=(l:Int))(x8:j'=(q:Int))(hl:l≤q)(hq:q≤cap)
  (hp:aQ n d (.slice (if cap=l then A else A.map (·.add (l*s))) (q-l) (cap-l)) e=some e')(h:RL P ops Q rest n e' D m):RL P ops Q (⟨d,.slice t x (some y) (some z) none,ty,pos,aft,g⟩::rest) n e D m:=by
 subst hj;subst x8;refine RL.value _ hg (fun a w hf _=>?_) hp h;obtain ⟨te,hu,cz⟩:=eF hT hs w;simp [execOp,hf.ev hx,hf.ev hy,hf.ev hz,Instr.sliceAt,Instr.slice,Instr.sliceBounds,Instr.sliceBound,asIntOf,run_underlying hu,cz,hl,hq]
theorem RL.index(hT:T.Ok P){s:Nat}{xs:List Value}(hS:Sl m M s (.slice A len cap) xs){k:Nat}{j:Int}{kk:IntKind}(hj:j=(k:Int))(aM:k<len)(hs:T.fJ t=some s)
  (hg:gd ops e ⟨d,.indexAddr t x y,ty,pos,aft,g⟩=some true)(hx:e.ev x=some (.slice A len cap))(hy:e.ev y=some (.int kk j))
  (h:∀ad,A=some ad→ad.block∉M→(∀i u,xs[k*s+i]?=some u→m.cell? ((ad.add (k*s)).add i)=some u)→∃e',aQ n d (.pointer (some (ad.add (k*s)))) e=some e'∧RL P ops Q rest n e' D m):RL P ops Q (⟨d,.indexAddr t x y,ty,pos,aft,g⟩::rest) n e D m:=by
 obtain ⟨ad,rfl,hb,hc⟩:=hS.addr J9;obtain ⟨rt,te,r,dD,hk,hr,rfl⟩:=Ty.mT hs;obtain ⟨e',hp,Zk⟩:=h ad rfl hb (fun i u hu=>by rw [add_add];exact hc _ u hu);exact RL.indexAddr hT dD hk hr hg hx hy hj aM hp Zk
def Bs(m:World)(M:List Nat)(v:Value)(l:List UInt8):Prop:=Sl m M 1 v (ZA l)
def str(l:List UInt8):ByteArray:=⟨l.toArray⟩
theorem qW(l:List UInt8):(str l).toList=l:=ByteArray.toList_mk l
theorem RL.AQ(hT:T.Ok P){s:Nat}(hs:T.fJ t=some s)(hg:gd ops e ⟨d,.buildSlice t 0 #[],ty,pos,aft,g⟩=some true)
  (h:∀b m',b=m.heap.size→Ext m [] m'→∃e',aQ n d (.slice (some ⟨b,0,none⟩) 0 0) e=some e'∧RL P ops Q rest n e' D m'):
  RL P ops Q (⟨d,.buildSlice t 0 #[],ty,pos,aft,g⟩::rest) n e D m:=by
 obtain ⟨te,hu,cz⟩:=eF hT hs m;obtain ⟨e',hp,hk⟩:=h m.heap.size _ rfl ((gD.alloc m (.cells #[] te)).new (yP _));refine RL.fX _ _ hg (fun a w hf hw=>⟨_,?_,hw.alloc _⟩) hp hk;obtain ⟨te',AX,D6⟩:=eF hT hs w;rw [hu]at AX
 injection AX with AX
 injection AX with AX
 subst AX;simp [execOp,Instr.buildSlice,run_underlying hu,D6,Instr.fill,newRow,hw.size]
 congr 2
 apply xO;simp
end
section
open Go.RowKit
variable{P:Program} {T:Ty} {ops:Array Oper} {Q:Exit→Act→World→Prop} {J:World→Prop} {fin:List Nat} {fuel:Nat} {listed:Array Bool} {rest:List Oper} {n:Nat} {e e':Env} {D:Fr} {ds:List Deferred} {m:World}
 {d:Option Tmp} {x y:Operand} {t ty:TypeId} {pos:String} {aft:Array Edge} {g:Option (Nat×Bool)}
theorem RH.sliceFrom(hT:T.Ok P)(hQ:ai Q)(i:Nat){s l len cap:Nat}{A:Option Addr}{k:IntKind}{j:Int}(hi:ops[i]?=some ⟨d,.slice t x (some y) none none,ty,pos,aft,g⟩)(hB:(be ops&&bq ops fin listed [i])=true)(hs:T.fJ t=some s)
  (hg:gd ops e ⟨d,.slice t x (some y) none none,ty,pos,aft,g⟩=some true)(hx:e.ev x=some (.slice A len cap))(hy:e.ev y=some (.int k j))(hj:j=(l:Int))(hl:l≤len)
  (hp:aQ n d (.slice (if cap=l then A else A.map (·.add (l*s))) (len-l) (cap-l)) e=some e')(h:RH P ops Q J fin fuel (listed.setIfInBounds i true) n e' D m):RH P ops Q J fin (fuel+1) listed n e D m:=by
 simp only [bq,wR,wY]at hB;subst hj;refine RH.take hi hB.1 hB.2.1 hB.2.2 hQ (fun a hf=>.inl ⟨cZ hf hg,fun w _=>?_⟩) hp h;obtain ⟨te,hu,cz⟩:=eF hT hs w;simp [execOp,hf.ev hx,hf.ev hy,Instr.sliceAt,Instr.slice,Instr.sliceBounds,Instr.sliceBound,asIntOf,run_underlying hu,cz,hl]
theorem RH.eqv{k:Nat}{v v':Value}(hv:v=v')(h:RH P ops Q J fin fuel listed n ((k,v')::e) D m):RH P ops Q J fin fuel listed n ((k,v)::e) D m:=by subst hv;exact h
end
open Go.RowKit
theorem wrap_u64(x:Int):IntKind.u64.wrap x=x%18446744073709551616:=by simp [IntKind.wrap,IntKind.signed,IntKind.bits]
theorem wrap_i64(x:Int):IntKind.i64.wrap x=if x%18446744073709551616≥9223372036854775808 then x%18446744073709551616-18446744073709551616 else x%18446744073709551616:=by
 simp [IntKind.wrap,IntKind.signed,IntKind.bits]
theorem ag(x:Int)(h1:-9223372036854775808≤x)(h2:x≤9223372036854775807):IntKind.i64.wrap x=x:=by
 rw [wrap_i64];split<;>omega
theorem aq(x:Int)(h1:0≤x)(h2:x<18446744073709551616):IntKind.u64.wrap x=x:=by rw [wrap_u64];omega
def VY(most:Nat):Nat→Nat→List UInt8→Except Int (Nat×List UInt8)
 |_,_,[]=>.error 10
 |i,n,b::r=>if i=9∧1<b.toNat then .error 11
  else if 128≤b.toNat then VY most (i+1) (n+b.toNat%128*128^i) r
  else if b.toNat=0∧0<i then .error 11
  else if most<n+b.toNat%128*128^i then .error 12
  else .ok (n+b.toNat%128*128^i,r)
def gR{α:Type}(z:α)(e:Int)(l:List UInt8)(r:Except Int (α×List UInt8)):α×List UInt8×Int:=
 if e=0 then match r with
  |.ok (a,l')=>(a,l',0)
  |.error k=>(z,l,k)
 else(z,l,e)
def Nw:List UInt8→Except Int (UInt8×List UInt8)
 |[]=>.error 10
 |b::l=>.ok (b,l)
def OP(most:Nat)(l:List UInt8):Except Int (List UInt8×List UInt8):=match VY most 0 0 l with
 |.error k=>.error k
 |.ok (n,l')=>if n≤l'.length then .ok (l'.take n,l'.drop n)else .error 10
def ek(m:World)(S':List Nat)(m':World):Prop:=Ext m [] m'∧bp m [] S'
theorem ek.ge{m m':World}{S':List Nat}(h:ek m S' m'):∀k∈S',m.heap.size≤k:=fun k hk=>by
 rcases h.2 k hk with h1|h1
 ·cases h1
 ·exact h1
section
variable{P:Program} {T:Ty} {ops:Array Oper} {Q:Exit→Act→World→Prop} {rest:List Oper} {n:Nat} {e e':Env} {D:Fr} {m w:World}
 {d:Option Tmp} {x y:Operand} {t te ti ty:TypeId} {pos:String} {aft:Array Edge} {g:Option (Nat×Bool)} {rt r:Row}
theorem qH(hT:T.Ok P)(dD:T.row t=some rt)(hk:rt.k=.kb te)(hr:T.row te=some r)(tN:r.zero.cells.size=r.size)(cz:0<r.size)(Tp:P.underlying ti=some (.int .i64))
  {k:Nat}(ib:0<k)(gj:k≤maxLen)(dn:k*r.bytes≤140737488355328)(hs:bS m w)(ty:TypeId):
  ∃cap cur w',(Builtin.append_ #[t,ti] ty #[.slice none 0 0,.int .i64 k]).run P w=.ok (.slice (some ⟨m.heap.size,0,none⟩) k cap) w'∧bw w' m.heap.size te cur∧k≤cap∧cap≤maxLen∧cur.length=cap*r.size∧Ext m [] (low m w'):=by
 have hu:=(hT.row dD).k;rw [hk]at hu;obtain ⟨i,hi,yc,A7,GD⟩:=(hT.row hr).parts;have Zb:k≤9223372036854775807:=by unfold maxLen at gj;omega
 have Pb:IntKind.i64.wrap (k:Int)=k:=ag _ J9 J9;have T0:¬((9223372036854775807:Int)<(k:Int)):=by omega
 have PT:max (k:Int) 0=k:=by omega
 have G5:¬((k:Int)<0):=by omega
 have M6:¬(281474976710656<Builtin.nextslicecap k 0*i.bytes):=by
  rw [GD];have:=growslice_fits (old:=0) (need:=k) J9 dn;omega
 have fW:=grownCap_ge w k 0 te;have kl:=grownCap_le_maxLen w k 0 te gj;have FN:¬((281474976710656:Int)<(k:Int)*(i.bytes:Int)):=by
  rw [GD];have:(k:Int)*(r.bytes:Int)≤140737488355328:=by rw [←Int.natCast_mul];omega
  omega
 have U0:¬(k*r.size=0):=Nat.ne_of_gt (Nat.mul_pos ib cz);have hb:bw (w.drew.alloc (.cells ((Builtin.zeroCells r.zero.cells k).toList++(Builtin.zeroCells r.zero.cells (grownCap w k 0 te-k)).toList).toArray te)) w.heap.size te ((Builtin.zeroCells r.zero.cells k).toList++(Builtin.zeroCells r.zero.cells (grownCap w k 0 te-k)).toList):=heap_alloc_new w.drew _;refine ⟨grownCap w k 0 te,_,w.drew.alloc (.cells ((Builtin.zeroCells r.zero.cells k).toList++(Builtin.zeroCells r.zero.cells (grownCap w k 0 te-k)).toList).toArray te),?_,by rw [←hs.size];exact hb,fW,kl,?_,?_⟩
 ·have Nk:¬(k=0):=by omega
  simp [Builtin.append_,run_underlying hu,run_underlying Tp,sizeOf,typeInfo,zeroValue,hi,yc,A7,asIntOf,Pb,FN,asInt,M6,T0,PT,G5,newRow,Question.forced,grownCap,Builtin.firstCells,Nk,←hs.size];rw [zX U0]
  congr 3
  apply xO;simp
 ·simp only [zY,fE,tN,←Nat.add_mul];congr 1;omega
 ·refine ⟨hs.os,hs.tape,hs.output,by rw [cJ];simp [hs.size],fun q hq _=>?_,iF.low (yQ hs.drawn)⟩;show(w.drew.alloc _).heap[q]?=_;rw [Below.heap_alloc w.drew _ q Jc];show w.heap[q]?=_;rw [hs.heap]
theorem RL.rQ(hT:T.Ok P)(he:T.elem t=some (te,r))(Tp:(T.row ti).map (·.k)=some (.int .i64)){k:Nat}{j:Int}
  (hg:gd ops e ⟨d,.call ⟨.builtin .append,#[x,y],#[t,ti]⟩,ty,pos,aft,g⟩=some true)(hx:e.ev x=some (.slice none 0 0))(hy:e.ev y=some (.int .i64 j))(hj:j=(k:Int))(ib:0<k)(gj:k≤maxLen)(dn:k*r.bytes≤140737488355328)
  (h:∀cap cur m',bw m' m.heap.size te cur→k≤cap→cap≤maxLen→cur.length=cap*r.size→Ext m [] m'→∃e',aQ n d (.slice (some ⟨m.heap.size,0,none⟩) k cap) e=some e'∧RL P ops Q rest n e' D m'):
  RL P ops Q (⟨d,.call ⟨.builtin .append,#[x,y],#[t,ti]⟩,ty,pos,aft,g⟩::rest) n e D m:=by
 subst hj;obtain ⟨rt,dD,hk,hr,tN,cz,_⟩:=Ty.dK he;obtain ⟨r1,OE,O3⟩:=xN.1 Tp;have h1:=(hT.row OE).k;rw [O3]at h1;refine RL.uy (R:=fun v' m'=>∃cap cur,v'=.slice (some ⟨m.heap.size,0,none⟩) k cap∧bw m' m.heap.size te cur∧k≤cap∧cap≤maxLen∧cur.length=cap*r.size∧Ext m [] m') hg (fun a w hf hs=>?_)
  (fun v' m' ⟨cap,cur,hv,h2,h3,h4,h5,h6⟩=>by subst hv;exact h cap cur m' h2 h3 h4 h5 h6)
 obtain ⟨cap,cur,w',h2,h3,h4,h5,h6,h7⟩:=qH hT dD hk hr tN cz h1 ib gj dn hs ty;refine ⟨_,w',low m w',?_,bS.low m w',cap,cur,rfl,h3,h4,h5,h6,h7⟩;simp [execOp,resolve,invoke,builtin,hf.ev hx,hf.ev hy,h2]
theorem Own.RZ{b cap:Nat}{cur:List Value}{sz:Nat}(h:bw m b te cur)(Bv:cap≤maxLen)(hl:cur.length=cap*sz):Own m [b] te sz (.slice (some ⟨b,0,none⟩) 0 cap) 0 []:=
 ⟨YA,.inr ⟨b,cap,cur,rfl,h,yI _,Bv,hl,YA,rfl⟩⟩
theorem RL.makeSlice(hT:T.Ok P)(he:T.elem t=some (te,r)){z:Value}(hz:r.zero.cells=#[z])(qo:r.size=1){k:Nat}{j:Int}
  (hg:gd ops e ⟨d,.makeSlice t x y,ty,pos,aft,g⟩=some true)(hx:e.ev x=some (.int .i64 j))(hy:e.ev y=some (.int .i64 j))(hj:j=(k:Int))(ib:0<k)(gj:k≤9223372036854775807)(dn:r.bytes*k≤140737488355328)
  (h:∀b m',b=m.heap.size→gD m b (.cells (List.replicate k z).toArray te (0,0)) m'→∃e',aQ n d (.slice (some ⟨b,0,none⟩) k k) e=some e'∧RL P ops Q rest n e' D m'):
  RL P ops Q (⟨d,.makeSlice t x y,ty,pos,aft,g⟩::rest) n e D m:=by
 subst hj;obtain ⟨rt,dD,hk,hr,_,_,_⟩:=Ty.dK he;have hu:=(hT.row dD).k;rw [hk]at hu;obtain ⟨i,hi,yc,A7,GD⟩:=(hT.row hr).parts;obtain ⟨e',hp,sD⟩:=h m.heap.size _ rfl (gD.alloc m _);refine RL.fX _ _ hg (fun a w hf hs=>⟨_,?_,hs.alloc _⟩) hp sD;have Pb:IntKind.i64.wrap (k:Int)=k:=ag _ J9 J9;have FN:¬((281474976710656:Int)<(i.bytes:Int)*(k:Int)):=by
  rw [GD];have:(r.bytes:Int)*(k:Int)≤140737488355328:=by rw [←Int.natCast_mul];omega
  omega
 have G5:¬((k:Int)<0):=by omega
 have Nk:¬(k=0):=by omega
 have N2:((Array.range k).map fun q=>(#[z]:Array Value)[q%(#[z]:Array Value).size]!)=(List.replicate k z).toArray:=by
  apply Array.ext
  ·simp
  ·intro q h1 h2;simp [Nat.mod_one]
 simp [execOp,hf.ev hx,hf.ev hy,Instr.makeSlice,run_underlying hu,asInt,asIntOf,typeInfo,hi,sizeOf,zeroValue,yc,A7,qo,Pb,FN,G5,Nk,newRow,hz,←hs.size];exact xZ (fun c=>w.alloc (.cells c te)) (by simpa using N2)
end
theorem Own.Ci{m:World}{S:List Nat}{t:TypeId}{sz:Nat}{v:Value}{n j:Nat}{xs:List Value}(h:Own m S t sz v n xs)(hj:j<n*sz):
  ∃g cap cur,v=.slice (some ⟨g,0,none⟩) n cap∧bw m g t cur∧S=[g]∧j<cur.length∧∀m' x,gD m g (.cells (cur.set j x).toArray t (0,0)) m'→Own m' S t sz v n (xs.set j x):=by
 have hn:0<n:=by
  rcases xR n with h0|h0
  ·subst h0;simp at hj
  ·exact h0
 obtain ⟨g,cap,cur,rfl,hB,Bv,kl,jW,CW,rfl⟩:=h.at_ hn;have My:j<cur.length:=by rw [jW];exact wH hj (wP _ Bv)
 refine ⟨g,cap,cur,rfl,hB,rfl,My,fun m' x hC=>⟨?_,.inr ⟨g,cap,_,rfl,hC.fc,Bv,kl,by simpa using jW,?_,rfl⟩⟩⟩
 ·rw [vB];exact h.1
 ·rw [List.take_set,CW]
section
open Go.WideShapes Go.ChangeShapes
variable{H:Type} {enc:TypeId×Value→H} {P:Program}
theorem uq{ts:List TypeId}(h:ts.all (fun t=>P.readableRec t&&decide (t<P.types.size))=true){t:TypeId}(ht:t∈ts):P.readableRec t=true∧t<P.types.size:=by
 have:=wX.1 h t ht
 simpa using this
theorem l8(hl:laidOutB P=true){W W':World}(hb:Below W.heap.size W W'){sp:Nat→Bool}:∀{ts:List TypeId} {vs:List Value} {ds:List (DataW H)} {ps:List MemPlace},
  ts.all (fun t=>P.readableRec t&&decide (t<P.types.size))=true→DataW.TrodAll enc P W 0 (fun _=>true) true ts vs ds ps→(∀x∈ps,x.block<W.heap.size)→(∀x∈ps,sp x.block=true)→
  DataW.TrodAll enc P W' 0 sp true ts vs ds ps
 |[],[],[],_,_,h,_,_=>h
 |t::ts,v::vs,d::ds,_,QG,⟨p,q,h1,h2,rfl⟩,aM,ze=>by
  obtain ⟨hr,gN⟩:=uq QG (zS ..);refine ⟨p,q,?_,l8 hl hb (wX.2 fun u hu=>wX.1 QG u (zO _ hu)) h2 (fun x hx=>aM x (yX _ hx)) (fun x hx=>ze x (yX _ hx)),rfl⟩;exact WideElems.Trod_stays hl hr gN h1 (fun x hx=>hb.same (aM x (yW _ hx))) (fun x hx=>ze x (yW _ hx))
theorem rz{f:Func}{s:ChangeSpec}{apart fresh handsOn again:Bool}{W W':World}{args:Array Value}{v:Value}{ds gs:List (DataW H)}{before pa pv:List MemPlace}
  (hW:DataW.Whole enc P f.params.toList s.vars apart W args.toList ds gs before)
  (R3:∀(b:Nat) (sp:Nat→Bool) (hd:Bool),DataW.TrodAll enc P W' b sp hd f.resultTypes.toList (v.resultList f.resultTypes.size) (s.fn H (ds++gs)).results [])
  (tO:∀sp:Nat→Bool,(∀p∈before,sp p.block=true)→DataW.TrodAll enc P W' 0 sp true f.params.toList args.toList (s.fn H (ds++gs)).args pa)
  (Mp:∀sp:Nat→Bool,(∀p∈before,sp p.block=true)→DataW.TrodVars enc P W' sp s.vars (s.fn H (ds++gs)).vars pv)
  (sU:before=pa++pv)(hb:Below W.heap.size W W')
  (cP:∀(j:Nat) (t:TypeId) (r:Value),f.resultTypes[j]?=some t→(v.resultList f.resultTypes.size)[j]?=some r→Value.okWide P W' .any 0 t r):
  s.post enc P f apart fresh handsOn again W args v W':=by
 have aM:∀p∈before,p.block<W.heap.size:=fun p hp=>hW.lt p hp
 have hold:∀p∈before,(fun b=>decide (b<W.heap.size)) p.block=true:=fun p hp=>by simpa using aM p hp
 refine ⟨ds,gs,before,[],pa,pv,hW,R3 _ _ _,tO _ hold,Mp _ hold,World.keptBut_mono (fun p hp=>⟨hp,?_⟩) (hb.frame (·∈before)),fun _=>?_⟩
 ·rw [sU,yL]at hp;exact Or.inr hp
 ·obtain ⟨_,_,_,_,_,hz,hn⟩:=hW;refine ⟨cP,_,_,([]++pa)++pv,⟨[]++pa,pv,trodAll_append (tO _ (fun _ _=>rfl)) (R3 _ _ _),Mp _ (fun _ _=>rfl),rfl,?_,?_⟩,?_⟩
  ·intro b off hp;have mN:MemPlace.cell b off∈before:=by rw [sU];simpa using hp
   rw [hb.frozen (aM _ mN)];exact hz b off mN
  ·intro ha;have:=hn ha;rw [sU]at this
   simpa using this
  ·intro p hp _;rw [sU]
   simpa using hp
theorem pC{W:World}{base:Nat}{sp:Nat→Bool}{hd:Bool}:∀{ts:List TypeId} {vs:List Value} {ds:List (DataW H)} {ps:List MemPlace},DataW.TrodAll enc P W base sp hd ts vs ds ps→ds.length=ts.length
 |[],[],[],_,_=>rfl
 |t::ts,v::vs,d::ds,_,⟨_,_,_,h2,_⟩=>by rw [yF,yF,pC h2]
def Fit(P:Program)(t:TypeId)(d:DataW H):Prop:=∀k∈d.weights P t,k≤reachBytes
theorem kX{e:TypeId}{k:Nat}:∀{ds:List (DataW H)} {d:DataW H},d∈ds→k∈d.weights P e→k∈DataW.weightsAll P e ds
 |d'::r,d,h,hk=>by
  unfold DataW.weightsAll;rcases yH.1 h with rfl|h
  ·exact yW _ hk
  ·exact yX _ (kX h hk)
theorem jU{k:Nat}{t:TypeId}:∀{i:Nat} {ts:List TypeId} {ds:List (DataW H)} {d:DataW H},ts[i]?=some t→ds[i]?=some d→k∈d.weights P t→k∈DataW.weightsEach P ts ds
 |0,t'::ts,d'::ds,d,h1,h2,hk=>by
  unfold DataW.weightsEach;simp only [wZ,yJ]at h1 h2;subst h1;subst h2;exact yW _ hk
 |i+1,t'::ts,d'::ds,d,h1,h2,hk=>by
  unfold DataW.weightsEach;exact yX _ (jU (by simpa using h1) (by simpa using h2) hk)
 |_,[],_,_,h1,_,_=>by simp at h1
 |_,_::_,[],_,_,h2,_=>by simp at h2
theorem Fit.arg{ts:List TypeId}{ds:List (DataW H)}(h:(DataW.weightsEach P ts ds).all (·≤reachBytes)=true)(i:Nat){t:TypeId}{d:DataW H}(ht:ts[i]?=some t)(hd:ds[i]?=some d):Fit P t d:=
 fun k hk=>by have:=wX.1 h k (jU ht hd hk);simpa using this
theorem Fit.elem{t e:TypeId}{el rest:List (DataW H)}(ht:P.underlying t=some (.slice e))(h:Fit P t (.slice el rest)){d:DataW H}(hd:d∈el):Fit P e d:=
 fun k hk=>h k (by unfold DataW.weights;rw [ht];exact zO _ (yW _ (kX hd hk)))
theorem Ld{α:Type}{W:World}{sp:Nat→Bool}{hd:Bool}{base fuel sz:Nat}{t e:TypeId}{cs:List Value}{x:DataW H×List MemPlace}(enc':α→List Value)(Good:α→Prop)
  (ht:P.underlying t=some (.slice e))(hC:P.cellsOf e=sz)(pM:Fit P t x.1)(ZW:∀(cs:List Value) (n:Nat) (y:DataW H×List MemPlace),cs.length=sz→DataW.trod enc P W base sp hd n e cs=some y→Fit P e y.1→∃a,cs=enc' a∧Good a)
  (h:DataW.trod enc P W base sp hd fuel t cs=some x):∃(v:Value) (l:List α),cs=[v]∧Sl W [] sz v (l.flatMap enc')∧∀a∈l,Good a:=by
 rcases DataW.trod_slice ht h with⟨rfl,_⟩|⟨a,len,cap,elems,rest,n,_,rfl,rfl,_,hl,hm,hlen,hi,_⟩
 ·exact ⟨_,[],rfl,Sl.nil _ _ _,YA⟩
 ·refine ⟨.slice (some a) len cap,?_⟩;have key:∀k,k≤len→∃l:List α,(l.flatMap enc').length=k*sz∧(∀j u,(l.flatMap enc')[j]?=some u→W.cell? (a.add j)=some u)∧∀b∈l,Good b:=by
   intro k
   induction k with
   |zero=>intro _;exact ⟨[],YA,YA,YA⟩
   |succ k ih=>
    intro hk;obtain ⟨l,h1,h2,h3⟩:=ih J9;have TU:=hi k J9;rw [hC,xW J9]at TU;obtain ⟨cs',CV,jT⟩:=Option.bind_eq_some_iff.1 TU;obtain ⟨_,jW,pg⟩:=World.cells?_some CV;obtain ⟨b,rfl,hb⟩:=ZW cs' n _ jW jT (Fit.elem ht pM (vE.2 ⟨elems[k]'(by omega),vF _,rfl⟩))
    refine ⟨l++[b],?_,?_,?_⟩
    ·simp [h1,jW,Nat.add_mul]
    ·intro j u hu;simp only [vG,vH,List.flatMap_nil,vI]at hu
     by_cases hj:j<k*sz
     ·rw [vJ J9]at hu;exact h2 j u hu
     ·rw [vM J9,h1]at hu;have Z1:j-k*sz<sz:=by have h9:=(yV.1 hu).1;omega
      have:=pg (j-k*sz) Z1;rw [add_add,show k*sz+(j-k*sz)=j by omega]at this;exact this.trans hu
    ·intro c hc;rcases yL.1 hc with hc|hc
     ·exact h3 c hc
     ·have:c=b:=by simpa using hc
      subst this;exact hb
  obtain ⟨l,h1,h2,h3⟩:=key len (yP _);exact ⟨l,rfl,⟨some a,len,cap,rfl,hl,hm,h1,(fun hh=>by cases hh),fun _=>⟨a,rfl,YA,h2⟩⟩,h3⟩
theorem Po{k:IntKind}{z lo hi:Int}(hw:(Lit.int k z).wf=true)(h1:k.min=lo)(h2:k.max=hi):lo≤z∧z≤hi:=by
 subst h1;subst h2
 simpa [Lit.wf]using hw
theorem o3{v u:Value}(h:v.cells.toList=[u])(hv:∃A n c,v=.slice A n c):v=u:=by
 obtain ⟨A,n,c,rfl⟩:=hv
 simpa [Value.cells]using h
end
end Go.Ev
namespace Go.Proofs.YtgpgladbdoimdaaGreatDoor
open Go.ChangeShapes Go.WideShapes Go.ChangeAt Go.RowKit Go.Ev
theorem own:ownKnob Tryz.prog.godebug=none:=by kernel_rfl
theorem laidOut:laidOutB Tryz.prog=true:=by kernel_rfl
theorem NR(t:TypeId){k:pW}{r:Row}(hr:T.row t=some r)(hk:r.k=k):MP Tryz.prog t k:=hk▸(aa.row hr).k
theorem cellsOf(t:TypeId){r:Row}(hr:T.row t=some r){k:Nat}(hk:r.size=k):Tryz.prog.cellsOf t=k:=hk▸(aa.row hr).cells
end Go.Proofs.YtgpgladbdoimdaaGreatDoor
namespace Go.Ev
open Go.Lib
theorem wrap_i32(x:Int):IntKind.i32.wrap x=if x%4294967296≥2147483648 then x%4294967296-4294967296 else x%4294967296:=by
 simp [IntKind.wrap,IntKind.signed,IntKind.bits]
theorem dX(x:Int)(h1:-2147483648≤x)(h2:x≤2147483647):IntKind.i32.wrap x=x:=by rw [wrap_i32];split<;>omega
theorem ET:∀x:Fin 256,bits .and .u8 (x.val:Int) 31=((x.val%32:Nat):Int):=by decide+kernel
theorem EE:∀x:Fin 256,bits .and .u8 (x.val:Int) 15=((x.val%16:Nat):Int):=by decide+kernel
theorem Gr:∀x:Fin 256,bits .and .u8 (x.val:Int) 7=((x.val%8:Nat):Int):=by decide+kernel
theorem EU:∀x:Fin 256,bits .and .u8 (x.val:Int) 63=((x.val%64:Nat):Int):=by decide+kernel
theorem BX:∀x:Fin 256,decide (bits .and .u8 (x.val:Int) 192=128)=decide (x.val/64=2):=by decide+kernel
theorem Ss(b:UInt8):bits .and .u8 (b.toNat:Int) 31=((b.toNat%32:Nat):Int):=ET ⟨b.toNat,b.toNat_lt⟩
theorem Sw(b:UInt8):bits .and .u8 (b.toNat:Int) 15=((b.toNat%16:Nat):Int):=EE ⟨b.toNat,b.toNat_lt⟩
theorem and7(b:UInt8):bits .and .u8 (b.toNat:Int) 7=((b.toNat%8:Nat):Int):=Gr ⟨b.toNat,b.toNat_lt⟩
theorem Qt(b:UInt8):bits .and .u8 (b.toNat:Int) 63=((b.toNat%64:Nat):Int):=EU ⟨b.toNat,b.toNat_lt⟩
theorem Nx(b:UInt8):decide (bits .and .u8 (b.toNat:Int) 192=128)=decide (b.toNat/64=2):=BX ⟨b.toNat,b.toNat_lt⟩
theorem Bx(y n:Nat)(hn:n<64)(h:y*64+n<2147483648):bits .or .i32 ((y*64:Nat):Int) (n:Int)=((y*64+n:Nat):Int):=by
 have h2:∀x:Nat,BitVec.ofInt IntKind.i32.bits (x:Int)=BitVec.ofNat 32 x:=fun x=>BitVec.ofInt_natCast ..
 show IntKind.i32.wrap ((BitVec.ofInt IntKind.i32.bits ((y*64:Nat):Int)|||BitVec.ofInt IntKind.i32.bits (n:Int)).toNat:Int)=_;rw [h2,h2];show IntKind.i32.wrap ((BitVec.ofNat 32 (y*64)|||BitVec.ofNat 32 n:BitVec 32).toNat:Int)=_;rw [BitVec.toNat_or,BitVec.toNat_ofNat,BitVec.toNat_ofNat,Nat.mod_eq_of_lt J9,Nat.mod_eq_of_lt J9];have:=(Nat.two_pow_add_eq_or_of_lt (i:=6) (b:=n) hn y).symm;rw [show y*64=2^6*y by omega,this,dX _ J9 J9]
def nx(l:List UInt8):Nat×Nat:=if decodeL l=(65533,1)then(0,0)else decodeL l
def sQ(b k r low:Nat):Prop:=(194≤b∧b<224∧k=2∧r=b%32∧low=128)∨(224≤b∧b<240∧k=3∧r=b%16∧low=2048)∨(240≤b∧b<245∧k=4∧r=b%8∧low=65536)
def acc(l:List UInt8)(r:Nat)(i:Nat):Nat:=((l.drop 1).take (i-1)).foldl (fun a b=>a*64+b.toNat%64) r
theorem CQ(l:List UInt8)(r:Nat):acc l r 1=r:=rfl
theorem iT(l:List UInt8)(r i:Nat)(h:i<l.length)(h1:1≤i):acc l r (i+1)=acc l r i*64+l[i].toNat%64:=by
 obtain ⟨j,rfl⟩:∃j,i=j+1:=⟨i-1,J9⟩;unfold acc;have h2:j<(l.drop 1).length:=by rw [zZ];omega
 rw [Nat.add_sub_cancel,Nat.add_sub_cancel,vN h2,vO];have e:(l.drop 1)[j]=l[j+1]:=by simp
 simp only [xB,List.foldl_nil,e]
theorem G9(l:List UInt8)(r:Nat)(hr:r<32):∀i,i+1≤l.length→acc l r (i+1)<32*64^i
 |0,_=>by simpa [CQ]using hr
 |i+1,h=>by
  rw [iT l r (i+1) J9 J9];have h1:=G9 l r hr i J9;have h2:l[i+1].toNat%64<64:=vP _ J9;rw [Nat.pow_succ];omega
theorem fP{l:List UInt8}{i:Nat}(h:i<l.length):l.getD i 0=l[i]:=by simp [List.getD,h]
theorem qD(l:List UInt8)(h:0<l.length)(hb:l[0].toNat<128):nx l=(l[0].toNat,1):=by
 unfold nx;rw [decodeL_N,fP h];unfold decodeN;rw [yS hb,zX];intro hh;have:=xZ Prod.fst hh;simp only at this;omega
theorem uw(l:List UInt8)(h:0<l.length)(h1:128≤l[0].toNat)(h2:¬∃k r low,sQ l[0].toNat k r low):nx l=(0,0):=by
 have aM:=l[0].toNat_lt;have hb:l[0].toNat<194∨245≤l[0].toNat:=by
  rcases xA l[0].toNat 194 with g|g
  ·exact .inl g
  ·rcases xA l[0].toNat 245 with g2|g2
   ·exfalso;apply h2;rcases xA l[0].toNat 224 with g3|g3
    ·exact ⟨_,_,_,.inl ⟨g,g3,rfl,rfl,rfl⟩⟩
    ·rcases xA l[0].toNat 240 with g4|g4
     ·exact ⟨_,_,_,.inr (.inl ⟨g3,g4,rfl,rfl,rfl⟩)⟩
     ·exact ⟨_,_,_,.inr (.inr ⟨g4,g2,rfl,rfl,rfl⟩)⟩
   ·exact .inr g2
 unfold nx;rw [decodeL_N,fP h,decodeN_bad _ _ _ _ _ J9,yS rfl]
def xj(r low:Nat):Bool:=decide (r<low)||(decide (1114111<r)||(decide (55296≤r)&&decide (r<57344)))
theorem lx{r low:Nat}:xj r low=true↔r<low∨1114111<r∨(55296≤r∧r<57344):=by
 unfold xj;rw [wS,wS,wR,decide_eq_true_iff,decide_eq_true_iff,decide_eq_true_iff,decide_eq_true_iff]
set_option maxRecDepth 10000 in
theorem vx(l:List UInt8){k r low:Nat}(h:0<l.length)(hL:sQ l[0].toNat k r low):
  nx l=if k≤l.length∧(∀i (hi:i<l.length),1≤i→i<k→l[i].toNat/64=2)∧xj (acc l r k) low=false then(acc l r k,k)else(0,0):=by
 have g1:∀i,l.length≤i→(l.getD i 0).toNat=0:=fun i hi=>by simp [List.getD,hi]
 have key:decodeN l.length l[0].toNat (l.getD 1 0).toNat (l.getD 2 0).toNat (l.getD 3 0).toNat=(65533,1)∧¬(k≤l.length∧(∀i (hi:i<l.length),1≤i→i<k→l[i].toNat/64=2)∧xj (acc l r k) low=false)∨
   decodeN l.length l[0].toNat (l.getD 1 0).toNat (l.getD 2 0).toNat (l.getD 3 0).toNat=(acc l r k,k)∧(k≤l.length∧(∀i (hi:i<l.length),1≤i→i<k→l[i].toNat/64=2)∧xj (acc l r k) low=false):=by
  have a1:acc l r 1=r:=rfl;have a2:1<l.length→acc l r 2=r*64+(l.getD 1 0).toNat%64:=fun hh=>by
   rw [iT l r 1 J9 J9,a1,fP J9]
  have a3:2<l.length→acc l r 3=(r*64+(l.getD 1 0).toNat%64)*64+(l.getD 2 0).toNat%64:=fun hh=>by
   rw [iT l r 2 J9 J9,a2 J9,fP (show 2<l.length by omega)]
  have a4:3<l.length→acc l r 4=((r*64+(l.getD 1 0).toNat%64)*64+(l.getD 2 0).toNat%64)*64+(l.getD 3 0).toNat%64:=fun hh=>by
   rw [iT l r 3 J9 J9,a3 J9,fP (show 3<l.length by omega)]
  have q1:∀i,i<l.length→((∀hi:i<l.length,l[i].toNat/64=2)↔(l.getD i 0).toNat/64=2):=fun i hi=>
   ⟨fun hh=>by rw [fP J9];exact hh J9,fun hh hi=>by rw [fP hi]at hh;exact hh⟩
  have V9:∀r low,xj r low=false↔¬r<low∧¬1114111<r∧¬(55296≤r∧r<57344):=fun r low=>by
   unfold xj;simp only [Bool.or_eq_false_iff,decide_eq_false_iff_not,Bool.and_eq_false_iff];constructor
   ·rintro ⟨x1,x2,x3⟩;exact ⟨x1,x2,J9⟩
   ·rintro ⟨x1,x2,x3⟩;exact ⟨x1,x2,J9⟩
  rw [V9];generalize Ew:(l.getD 1 0).toNat=b1 at*;generalize BE:(l.getD 2 0).toNat=b2 at*;generalize IQ:(l.getD 3 0).toNat=b3 at*;have z1:l.length≤1→b1=0:=fun hh=>by rw [←Ew];exact g1 1 hh
  have z2:l.length≤2→b2=0:=fun hh=>by rw [←BE];exact g1 2 hh
  have z3:l.length≤3→b3=0:=fun hh=>by rw [←IQ];exact g1 3 hh
  rcases hL with⟨h1,h2,rfl,rfl,rfl⟩|⟨h1,h2,rfl,rfl,rfl⟩|⟨h1,h2,rfl,rfl,rfl⟩
  ·by_cases hc:1<l.length∧b1/64=2
   ·right;refine ⟨?_,J9,fun i hi h3 h4=>?_,?_⟩
    ·unfold decodeN;rw [zX J9,yS J9,yS J9,a2 hc.1]
    ·obtain rfl:i=1:=by omega
     exact (q1 1 hc.1).2 (Ew.symm▸hc.2) hi
    ·rw [a2 hc.1];omega
   ·left;refine ⟨?_,fun hh=>hc ⟨J9,?_⟩⟩
    ·unfold decodeN;rw [zX J9,zX J9,zX J9,zX J9]
    ·have:=(q1 1 J9).1 (fun hi=>hh.2.1 1 hi J9 J9);rw [Ew]at this;exact this
  ·by_cases hc:(1<l.length∧b1/64=2)∧(2<l.length∧b2/64=2)
   ·have e:acc l (l[0].toNat%16) 3=l[0].toNat%16*4096+b1%64*64+b2%64:=by rw [a3 hc.2.1];omega
    by_cases hv:l[0].toNat%16*4096+b1%64*64+b2%64≥2048∧(l[0].toNat%16*4096+b1%64*64+b2%64<55296∨(57344≤l[0].toNat%16*4096+b1%64*64+b2%64∧l[0].toNat%16*4096+b1%64*64+b2%64≤1114111))
    ·right;refine ⟨?_,J9,fun i hi h3 h4=>?_,?_⟩
     ·unfold decodeN;rw [zX J9,zX J9,yS J9,yS hv,e]
     ·rcases (show i=1∨i=2 by omega)with rfl|rfl
      ·exact (q1 1 hc.1.1).2 (Ew.symm▸hc.1.2) hi
      ·exact (q1 2 hc.2.1).2 (BE.symm▸hc.2.2) hi
     ·rw [e];omega
    ·left;refine ⟨?_,fun hh=>hv ?_⟩
     ·unfold decodeN;rw [zX J9,zX J9,yS J9,zX hv]
     ·have:=hh.2.2;rw [e]at this;omega
   ·left;refine ⟨?_,fun hh=>hc ⟨⟨J9,?_⟩,J9,?_⟩⟩
    ·unfold decodeN;rw [zX J9,zX J9,zX J9,zX J9]
    ·have:=(q1 1 J9).1 (fun hi=>hh.2.1 1 hi J9 J9);rw [Ew]at this;exact this
    ·have:=(q1 2 J9).1 (fun hi=>hh.2.1 2 hi J9 J9);rw [BE]at this;exact this
  ·by_cases hc:(1<l.length∧b1/64=2)∧(2<l.length∧b2/64=2)∧(3<l.length∧b3/64=2)
   ·have e:acc l (l[0].toNat%8) 4=l[0].toNat%8*262144+b1%64*4096+b2%64*64+b3%64:=by rw [a4 hc.2.2.1];omega
    by_cases hv:l[0].toNat%8*262144+b1%64*4096+b2%64*64+b3%64≥65536∧(l[0].toNat%8*262144+b1%64*4096+b2%64*64+b3%64<55296∨(57344≤l[0].toNat%8*262144+b1%64*4096+b2%64*64+b3%64∧l[0].toNat%8*262144+b1%64*4096+b2%64*64+b3%64≤1114111))
    ·right;refine ⟨?_,J9,fun i hi h3 h4=>?_,?_⟩
     ·unfold decodeN;rw [zX J9,zX J9,zX J9,yS J9,yS hv,e]
     ·rcases (show i=1∨i=2∨i=3 by omega)with rfl|rfl|rfl
      ·exact (q1 1 hc.1.1).2 (Ew.symm▸hc.1.2) hi
      ·exact (q1 2 hc.2.1.1).2 (BE.symm▸hc.2.1.2) hi
      ·exact (q1 3 hc.2.2.1).2 (IQ.symm▸hc.2.2.2) hi
     ·rw [e];omega
    ·left;refine ⟨?_,fun hh=>hv ?_⟩
     ·unfold decodeN;rw [zX J9,zX J9,zX J9,yS J9,zX hv]
     ·have:=hh.2.2;rw [e]at this;omega
   ·left;refine ⟨?_,fun hh=>hc ⟨⟨J9,?_⟩,⟨J9,?_⟩,J9,?_⟩⟩
    ·unfold decodeN;rw [zX J9,zX J9,zX J9,zX J9]
    ·have:=(q1 1 J9).1 (fun hi=>hh.2.1 1 hi J9 J9);rw [Ew]at this;exact this
    ·have:=(q1 2 J9).1 (fun hi=>hh.2.1 2 hi J9 J9);rw [BE]at this;exact this
    ·have:=(q1 3 J9).1 (fun hi=>hh.2.1 3 hi J9 J9);rw [IQ]at this;exact this
 unfold nx;rw [decodeL_N,fP h];rcases key with⟨e,hc⟩|⟨e,hc⟩
 ·rw [e,yS rfl,zX hc]
 ·rw [e,yS hc,zX];intro hh;have:=xZ Prod.snd hh;simp only at this;rcases hL with h1|h1|h1<;>omega
def k7:Nat→List UInt8→Option (List Nat)
 |0,l=>if l=[]then some []else none
 |n+1,l=>if l=[]then some []else if(nx l).2=0 then none else(k7 n (l.drop (nx l).2)).map ((nx l).1::·)
def aN(l:List UInt8):Option (List Nat):=k7 l.length l
theorem eX(l:List UInt8)(h:l≠[]):(nx l).2=0∨(1≤(nx l).2∧(nx l).2≤l.length):=by
 have hl:0<l.length:=List.length_pos_iff.2 h
 by_cases hb:l[0].toNat<128
 ·rw [qD l hl hb];right;simp only;omega
 ·by_cases hL:∃k r low,sQ l[0].toNat k r low
  ·obtain ⟨k,r,low,hL⟩:=hL;rw [vx l hl hL]
   split
   ·rename_i hh;right;have:1≤k:=by rcases hL with h1|h1|h1<;>omega
    exact ⟨this,hh.1⟩
   ·exact .inl rfl
  ·rw [uw l hl J9 hL];exact .inl rfl
theorem pB:∀(n m:Nat) (l:List UInt8),l.length≤n→l.length≤m→k7 n l=k7 m l
 |0,0,_,_,_=>rfl
 |0,m+1,l,hn,_=>by
  have:l=[]:=wO J9;subst this;simp [k7]
 |n+1,0,l,_,hm=>by
  have:l=[]:=wO J9;subst this;simp [k7]
 |n+1,m+1,l,hn,hm=>by
  unfold k7
  by_cases h:l=[]
  ·rw [yS h,yS h]
  ·rw [zX h,zX h];rcases eX l h with h0|h0
   ·rw [yS h0,yS h0]
   ·rw [zX J9,zX J9,pB n m (l.drop (nx l).2) Jp Jp]
theorem gM:aN []=some []:=rfl
theorem dR(l:List UInt8)(h:l≠[]):aN l=if(nx l).2=0 then none else(aN (l.drop (nx l).2)).map ((nx l).1::·):=by
 obtain ⟨n,hn⟩:∃n,l.length=n+1:=⟨l.length-1,by have:=List.length_pos_iff.2 h;omega⟩;unfold aN;rw [hn]
 conv=>lhs;unfold k7
 rw [zX h];rcases eX l h with h0|h0
 ·rw [yS h0,yS h0]
 ·rw [zX J9,zX J9,pB n _ (l.drop (nx l).2) Jp (yP _)]
theorem wy(l:List UInt8)(h:l≠[]):(nx l).2=0↔decodeL l=(65533,1):=by
 have hl:0<l.length:=List.length_pos_iff.2 h;have:=decodeL_width l;unfold nx
 split
 ·rename_i hh;simp [hh]
 ·rename_i hh;constructor
  ·intro h0;omega
  ·intro h0;exact absurd h0 hh
theorem ql(l:List UInt8)(h:(nx l).2≠0):nx l=decodeL l:=by
 unfold nx at*
 split at h
 ·exact absurd rfl h
 ·rename_i hh;rw [zX hh]
theorem pb:∀(n:Nat) (l:List UInt8),l.length≤n→validD l=(aN l).isSome
 |0,l,h=>by
  have:l=[]:=wO J9;subst this;rfl
 |n+1,l,h=>by
  by_cases hn:l=[]
  ·subst hn;rfl
  ·rw [validD_step l hn,dR l hn]
   by_cases h0:decodeL l=(65533,1)
   ·rw [yS ((wy l hn).2 h0),yS (by rw [h0];exact ⟨rfl,rfl⟩)];rfl
   ·have h1:(nx l).2≠0:=fun hh=>h0 ((wy l hn).1 hh)
    rw [zX h1,zX (fun hh=>h0 (Prod.ext hh.1 hh.2))];have h2:=ql l h1;rcases eX l hn with h3|h3
    ·exact absurd h3 h1
    ·rw [←h2,pb n (l.drop (nx l).2) Jp];cases aN (l.drop (nx l).2)<;>rfl
theorem FH(l:List UInt8):validD l=(aN l).isSome:=pb l.length l (yP _)
theorem gL:∀(n:Nat) (l:List UInt8) (r:List Nat),l.length≤n→aN l=some r→r.length≤l.length
 |0,l,r,h,hr=>by
  have:l=[]:=wO J9;subst this;rw [gM]at hr;simp only [yJ]at hr;subst hr;simp
 |n+1,l,r,h,hr=>by
  by_cases hn:l=[]
  ·subst hn;rw [gM]at hr;simp only [yJ]at hr;subst hr;simp
  ·rw [dR l hn]at hr
   split at hr
   ·cases hr
   ·rename_i h1;obtain ⟨r',iQ,rfl⟩:=xN.1 hr;rcases eX l hn with h3|h3
    ·exact absurd h3 h1
    ·have:=gL n _ r' Jp iQ;rw [zZ]at this;simp only [yF];omega
end Go.Ev
namespace Go.Proofs.YtgpgladbdoimdaaGreatDoor
open Go.RowKit Go.Ev Go.Ids
def rC(x:aG):List Value:=[.int .u64 x.c,.int .u64 x.f,.int .u64 x.t]
def rV(x:aG):Value:=.agg (rC x).toArray
structure aL where
 c:Nat
 k:Nat
def iC(x:aL):List Value:=[.int .u64 x.c,.int .u64 x.k]
def iV(x:aL):Value:=.agg (iC x).toArray
def aL.right(x:aL):Bool:=num x.c&&num x.k
def aL.lt(x y:aL):Bool:=decide (x.c<y.c)||(decide (x.c=y.c)&&decide (x.k<y.k))
theorem Dn(a:Nat)(b:Int)(c:Nat)(h:b=c):decide ((a:Int)≥b)=decide (c≤a):=by subst h;rw [vQ];omega
theorem iF(a:Nat)(b:Int)(c:Nat)(h:b=c):decide ((a:Int)≤b)=decide (a≤c):=by subst h;rw [vQ];omega
theorem sv(a c:Nat):decide ((a:Int)<(c:Int))=decide (a<c):=by rw [vQ];omega
theorem AY(a c:Nat):((a:Int)==(c:Int))=decide (a=c):=by
 by_cases h:a=c
 ·simp [h]
 ·have:¬(a:Int)=(c:Int):=by omega
  simp [h,this]
theorem nf(m:World)(n:Nat):dg Tryz.prog 138 [.int .u64 n] m fun r m'=>r=.bool (num n)∧m'=m:=by
 refine aP.zA Tryz.func138 ?_;refine aa8 ?_;refine ad0 ?_
 by_cases h:1≤n
 ·refine RL.eqv (v':=.bool true) (xZ _ (by rw [Dn n 1 1 rfl];exact zW h)) ?_;refine ac0 ?_;refine QN.aj rfl rfl ⟨_,rfl,xZ _ ?_,rfl⟩;rw [iF n 9007199254740991 9007199254740991 rfl];simp [num,h]
 ·refine RL.eqv (v':=.bool false) (xZ _ (by rw [Dn n 1 1 rfl];exact zV h)) ?_;refine ac0 ?_;refine QN.aj rfl rfl ⟨_,rfl,xZ _ ?_,rfl⟩;simp [num,h]
theorem u6(m:World)(x:aG):dg Tryz.prog 93 [rV x] m fun r m'=>r=.bool x.right∧Ext m [] m':=by
 refine aP.zA Tryz.func93 ?_;refine YG ?_;refine RL.box rfl rfl (fun b m1 hb hC=>⟨_,rfl,?_⟩);have hB:bw m1 b 167 (rC x):=hC.here;have hE:Ext m [] m1:=hC.new J9;clear hC;refine RL.A1 aa rfl ?_;refine RL.N1 (YE ?_)
 repeat(first|refine RL.pure aa 1 rfl ?_|refine RL.load aa rfl rfl rfl (hB.cell _ rfl) rfl ?_)
 refine zM (nf m1 x.c) ?_;rintro _ m2 ⟨rfl,rfl⟩;refine aa1 ?_;refine ac6 ?_
 by_cases h1:num x.c=true
 ·refine ai9 ?_
  repeat(first|refine RL.pure aa 1 rfl ?_|refine RL.load aa rfl rfl rfl (hB.cell _ rfl) rfl ?_)
  by_cases h2:1≤x.f
  ·refine RL.eqv (v':=.bool true) (xZ _ (by rw [Dn x.f 1 1 rfl];exact zW h2)) ?_
   repeat(first|refine RL.pure aa 1 rfl ?_|refine RL.load aa rfl rfl rfl (hB.cell _ rfl) rfl ?_)
   by_cases h3:x.f<x.t
   ·refine RL.eqv (v':=.bool true) (xZ _ (by rw [sv];exact zW h3)) ?_
    repeat(first|refine RL.pure aa 1 rfl ?_|refine RL.load aa rfl rfl rfl (hB.cell _ rfl) rfl ?_)
    refine aa3 ?_;rw [iF x.t 9007199254740992 9007199254740992 rfl];simp [aG.right,h1,h2,h3]
   ·refine RL.eqv (v':=.bool false) (xZ _ (by rw [sv];exact zV h3)) ?_
    repeat(first|refine RL.pure aa 1 rfl ?_|refine RL.load aa rfl rfl rfl (hB.cell _ rfl) rfl ?_)
    refine aa3 ?_;simp [aG.right,h1,h2,h3]
  ·refine RL.eqv (v':=.bool false) (xZ _ (by rw [Dn x.f 1 1 rfl];exact zV h2)) ?_
   repeat(first|refine RL.pure aa 1 rfl ?_|refine RL.load aa rfl rfl rfl (hB.cell _ rfl) rfl ?_)
   refine aa3 ?_;simp [aG.right,h1,h2]
 ·refine ah0 ?_
  repeat(first|refine RL.pure aa 1 rfl ?_|refine RL.load aa rfl rfl rfl (hB.cell _ rfl) rfl ?_)
  refine aa3 ?_;simp [aG.right,h1]
theorem zv(m:World)(x:aL):dg Tryz.prog 22 [iV x] m fun r m'=>r=.bool x.right∧Ext m [] m':=by
 refine aP.zA Tryz.func22 ?_;refine YG ?_;refine RL.box rfl rfl (fun b m1 hb hC=>⟨_,rfl,?_⟩);have hB:bw m1 b 30 (iC x):=hC.here;have hE:Ext m [] m1:=hC.new J9;clear hC;refine RL.A1 aa rfl ?_;refine RL.N1 (YE ?_)
 repeat(first|refine RL.pure aa 1 rfl ?_|refine RL.load aa rfl rfl rfl (hB.cell _ rfl) rfl ?_)
 by_cases h1:1≤x.c
 ·refine RL.eqv (v':=.bool true) (xZ _ (by rw [Dn x.c 1 1 rfl];exact zW h1)) ?_
  repeat(first|refine RL.pure aa 1 rfl ?_|refine RL.load aa rfl rfl rfl (hB.cell _ rfl) rfl ?_)
  by_cases h2:x.c≤9007199254740991
  ·refine RL.eqv (v':=.bool true) (xZ _ (by rw [iF x.c 9007199254740991 9007199254740991 rfl];exact zW h2)) ?_
   repeat(first|refine RL.pure aa 1 rfl ?_|refine RL.load aa rfl rfl rfl (hB.cell _ rfl) rfl ?_)
   by_cases h3:1≤x.k
   ·refine RL.eqv (v':=.bool true) (xZ _ (by rw [Dn x.k 1 1 rfl];exact zW h3)) ?_
    repeat(first|refine RL.pure aa 1 rfl ?_|refine RL.load aa rfl rfl rfl (hB.cell _ rfl) rfl ?_)
    refine aa3 ?_;rw [iF x.k 9007199254740991 9007199254740991 rfl];simp [aL.right,num,h1,h2,h3]
   ·refine RL.eqv (v':=.bool false) (xZ _ (by rw [Dn x.k 1 1 rfl];exact zV h3)) ?_
    repeat(first|refine RL.pure aa 1 rfl ?_|refine RL.load aa rfl rfl rfl (hB.cell _ rfl) rfl ?_)
    refine aa3 ?_;simp [aL.right,num,h1,h2,h3]
  ·refine RL.eqv (v':=.bool false) (xZ _ (by rw [iF x.c 9007199254740991 9007199254740991 rfl];exact zV h2)) ?_
   repeat(first|refine RL.pure aa 1 rfl ?_|refine RL.load aa rfl rfl rfl (hB.cell _ rfl) rfl ?_)
   refine aa3 ?_;simp [aL.right,num,h1,h2]
 ·refine RL.eqv (v':=.bool false) (xZ _ (by rw [Dn x.c 1 1 rfl];exact zV h1)) ?_
  repeat(first|refine RL.pure aa 1 rfl ?_|refine RL.load aa rfl rfl rfl (hB.cell _ rfl) rfl ?_)
  refine aa3 ?_;simp [aL.right,num,h1]
theorem kH(m:World)(x:aG):dg Tryz.prog 85 [rV x] m fun r m'=>r=.bool x.right∧Ext m [] m':=by
 refine aP.zA Tryz.func85 ?_;refine YG ?_;refine RL.box rfl rfl (fun b m1 hb hC=>⟨_,rfl,?_⟩);have hB:bw m1 b 167 (rC x):=hC.here;have hE:Ext m [] m1:=hC.new J9;clear hC;refine RL.A1 aa rfl ?_;refine RL.N1 (YE ?_)
 repeat(first|refine RL.pure aa 1 rfl ?_|refine RL.load aa rfl rfl rfl (hB.cell _ rfl) rfl ?_)
 by_cases h1:1≤x.c
 ·refine RL.eqv (v':=.bool true) (xZ _ (by rw [Dn x.c 1 1 rfl];exact zW h1)) ?_
  repeat(first|refine RL.pure aa 1 rfl ?_|refine RL.load aa rfl rfl rfl (hB.cell _ rfl) rfl ?_)
  by_cases h2:x.c≤9007199254740991
  ·refine RL.eqv (v':=.bool true) (xZ _ (by rw [iF x.c 9007199254740991 9007199254740991 rfl];exact zW h2)) ?_
   repeat(first|refine RL.pure aa 1 rfl ?_|refine RL.load aa rfl rfl rfl (hB.cell _ rfl) rfl ?_)
   by_cases h3:1≤x.f
   ·refine RL.eqv (v':=.bool true) (xZ _ (by rw [Dn x.f 1 1 rfl];exact zW h3)) ?_
    repeat(first|refine RL.pure aa 1 rfl ?_|refine RL.load aa rfl rfl rfl (hB.cell _ rfl) rfl ?_)
    by_cases h4:x.f<x.t
    ·refine RL.eqv (v':=.bool true) (xZ _ (by rw [sv];exact zW h4)) ?_
     repeat(first|refine RL.pure aa 1 rfl ?_|refine RL.load aa rfl rfl rfl (hB.cell _ rfl) rfl ?_)
     refine aa3 ?_;rw [iF x.t 9007199254740992 9007199254740992 rfl];simp [aG.right,num,h1,h2,h3,h4]
    ·refine RL.eqv (v':=.bool false) (xZ _ (by rw [sv];exact zV h4)) ?_
     repeat(first|refine RL.pure aa 1 rfl ?_|refine RL.load aa rfl rfl rfl (hB.cell _ rfl) rfl ?_)
     refine aa3 ?_;simp [aG.right,num,h1,h2,h3,h4]
   ·refine RL.eqv (v':=.bool false) (xZ _ (by rw [Dn x.f 1 1 rfl];exact zV h3)) ?_
    repeat(first|refine RL.pure aa 1 rfl ?_|refine RL.load aa rfl rfl rfl (hB.cell _ rfl) rfl ?_)
    refine aa3 ?_;simp [aG.right,num,h1,h2,h3]
  ·refine RL.eqv (v':=.bool false) (xZ _ (by rw [iF x.c 9007199254740991 9007199254740991 rfl];exact zV h2)) ?_
   repeat(first|refine RL.pure aa 1 rfl ?_|refine RL.load aa rfl rfl rfl (hB.cell _ rfl) rfl ?_)
   refine aa3 ?_;simp [aG.right,num,h1,h2]
 ·refine RL.eqv (v':=.bool false) (xZ _ (by rw [Dn x.c 1 1 rfl];exact zV h1)) ?_
  repeat(first|refine RL.pure aa 1 rfl ?_|refine RL.load aa rfl rfl rfl (hB.cell _ rfl) rfl ?_)
  refine aa3 ?_;simp [aG.right,num,h1]
theorem zr(m:World)(x:aL):dg Tryz.prog 78 [iV x] m fun r m'=>r=.bool x.right∧Ext m [] m':=by
 refine aP.zA Tryz.func78 ?_;refine YG ?_;refine RL.box rfl rfl (fun b m1 hb hC=>⟨_,rfl,?_⟩);have hB:bw m1 b 30 (iC x):=hC.here;have hE:Ext m [] m1:=hC.new J9;clear hC;refine RL.A1 aa rfl ?_;refine RL.N1 (YE ?_)
 repeat(first|refine RL.pure aa 1 rfl ?_|refine RL.load aa rfl rfl rfl (hB.cell _ rfl) rfl ?_)
 refine zM (nf m1 x.c) ?_;rintro _ m2 ⟨rfl,rfl⟩;refine aa1 ?_;refine ac6 ?_
 by_cases h1:num x.c=true
 ·refine ai9 ?_
  repeat(first|refine RL.pure aa 1 rfl ?_|refine RL.load aa rfl rfl rfl (hB.cell _ rfl) rfl ?_)
  refine zM (nf m2 x.k) ?_;rintro _ m3 ⟨rfl,rfl⟩;refine aa1 ?_
  repeat(first|refine RL.pure aa 1 rfl ?_|refine RL.load aa rfl rfl rfl (hB.cell _ rfl) rfl ?_)
  refine aa3 ?_;simp [aL.right,h1]
 ·refine ah0 ?_
  repeat(first|refine RL.pure aa 1 rfl ?_|refine RL.load aa rfl rfl rfl (hB.cell _ rfl) rfl ?_)
  refine aa3 ?_;simp [aL.right,h1]
theorem Hb(m:World)(x y:aL):dg Tryz.prog 184 [iV x,iV y] m fun r m'=>r=.bool (x.lt y)∧Ext m [] m':=by
 refine aP.zA Tryz.func184 ?_;refine YG ?_;refine RL.box rfl rfl (fun b m1 hb hC=>⟨_,rfl,?_⟩);refine RL.box rfl rfl (fun b2 m2 BE mQ=>⟨_,rfl,?_⟩);have dd:Ext m [] m1:=hC.new J9;have bM:Ext m1 [] m2:=mQ.new J9;have s1:=hC.size;have C8:bw m1 b 30 (iC x):=hC.here;have hB:bw m2 b 30 (iC x):=C8.ext bM YA;have hD:bw m2 b2 30 (iC y):=mQ.here;have hE:Ext m [] m2:=dd.trans bM YA;clear hC mQ C8 dd bM;refine RL.A1 aa rfl ?_;refine RL.N1 (YE ?_)
 repeat(first|refine RL.pure aa 1 rfl ?_|refine RL.load aa rfl rfl rfl (hB.cell _ rfl) rfl ?_|refine RL.load aa rfl rfl rfl (hD.cell _ rfl) rfl ?_)
 by_cases h1:x.c<y.c
 ·refine RL.eqv (v':=.bool true) (xZ _ (by rw [sv];exact zW h1)) ?_
  repeat(first|refine RL.pure aa 1 rfl ?_|refine RL.load aa rfl rfl rfl (hB.cell _ rfl) rfl ?_|refine RL.load aa rfl rfl rfl (hD.cell _ rfl) rfl ?_)
  refine aa3 ?_;simp [aL.lt,h1]
 ·refine RL.eqv (v':=.bool false) (xZ _ (by rw [sv];exact zV h1)) ?_
  repeat(first|refine RL.pure aa 1 rfl ?_|refine RL.load aa rfl rfl rfl (hB.cell _ rfl) rfl ?_|refine RL.load aa rfl rfl rfl (hD.cell _ rfl) rfl ?_)
  by_cases h2:x.c=y.c
  ·refine RL.eqv (v':=.bool true) (xZ _ Jh) ?_
   repeat(first|refine RL.pure aa 1 rfl ?_|refine RL.load aa rfl rfl rfl (hB.cell _ rfl) rfl ?_|refine RL.load aa rfl rfl rfl (hD.cell _ rfl) rfl ?_)
   refine aa3 ?_;rw [sv];simp [aL.lt,h2]
  ·refine RL.eqv (v':=.bool false) (xZ _ Jf) ?_
   repeat(first|refine RL.pure aa 1 rfl ?_|refine RL.load aa rfl rfl rfl (hB.cell _ rfl) rfl ?_|refine RL.load aa rfl rfl rfl (hD.cell _ rfl) rfl ?_)
   refine aa3 ?_;simp [aL.lt,h1,h2]
theorem E3(m:World)(x y:aL):dg Tryz.prog 116 [iV x,iV y] m fun r m'=>r=.bool (x.lt y)∧Ext m [] m':=by
 refine aP.zA Tryz.func116 ?_;refine YG ?_;refine RL.box rfl rfl (fun b m1 hb hC=>⟨_,rfl,?_⟩);refine RL.box rfl rfl (fun b2 m2 BE mQ=>⟨_,rfl,?_⟩);have dd:Ext m [] m1:=hC.new J9;have bM:Ext m1 [] m2:=mQ.new J9;have s1:=hC.size;have C8:bw m1 b 30 (iC x):=hC.here;have hB:bw m2 b 30 (iC x):=C8.ext bM YA;have hD:bw m2 b2 30 (iC y):=mQ.here;have hE:Ext m [] m2:=dd.trans bM YA;clear hC mQ C8 dd bM;refine RL.A1 aa rfl ?_;refine RL.N1 (YE ?_)
 repeat(first|refine RL.pure aa 1 rfl ?_|refine RL.load aa rfl rfl rfl (hB.cell _ rfl) rfl ?_|refine RL.load aa rfl rfl rfl (hD.cell _ rfl) rfl ?_)
 by_cases h1:x.c<y.c
 ·refine RL.eqv (v':=.bool true) (xZ _ (by rw [sv];exact zW h1)) ?_
  repeat(first|refine RL.pure aa 1 rfl ?_|refine RL.load aa rfl rfl rfl (hB.cell _ rfl) rfl ?_|refine RL.load aa rfl rfl rfl (hD.cell _ rfl) rfl ?_)
  refine aa3 ?_;simp [aL.lt,h1]
 ·refine RL.eqv (v':=.bool false) (xZ _ (by rw [sv];exact zV h1)) ?_
  repeat(first|refine RL.pure aa 1 rfl ?_|refine RL.load aa rfl rfl rfl (hB.cell _ rfl) rfl ?_|refine RL.load aa rfl rfl rfl (hD.cell _ rfl) rfl ?_)
  by_cases h2:x.c=y.c
  ·refine RL.eqv (v':=.bool true) (xZ _ Jh) ?_
   repeat(first|refine RL.pure aa 1 rfl ?_|refine RL.load aa rfl rfl rfl (hB.cell _ rfl) rfl ?_|refine RL.load aa rfl rfl rfl (hD.cell _ rfl) rfl ?_)
   refine aa3 ?_;rw [sv];simp [aL.lt,h2]
  ·refine RL.eqv (v':=.bool false) (xZ _ Jf) ?_
   repeat(first|refine RL.pure aa 1 rfl ?_|refine RL.load aa rfl rfl rfl (hB.cell _ rfl) rfl ?_|refine RL.load aa rfl rfl rfl (hD.cell _ rfl) rfl ?_)
   refine aa3 ?_;simp [aL.lt,h1,h2]
theorem Cr(m:World)(x y:aG):dg Tryz.prog 147 [rV x,rV y] m fun r m'=>r=.bool (x.lt y)∧Ext m [] m':=by
 refine aP.zA Tryz.func147 ?_;refine YG ?_;refine RL.box rfl rfl (fun b m1 hb hC=>⟨_,rfl,?_⟩);refine RL.box rfl rfl (fun b2 m2 BE mQ=>⟨_,rfl,?_⟩);have dd:Ext m [] m1:=hC.new J9;have bM:Ext m1 [] m2:=mQ.new J9;have s1:=hC.size;have C8:bw m1 b 167 (rC x):=hC.here;have hB:bw m2 b 167 (rC x):=C8.ext bM YA;have hD:bw m2 b2 167 (rC y):=mQ.here;have hE:Ext m [] m2:=dd.trans bM YA;clear hC mQ C8 dd bM;refine RL.A1 aa rfl ?_;refine RL.N1 (YE ?_)
 repeat(first|refine RL.pure aa 1 rfl ?_|refine RL.load aa rfl rfl rfl (hB.cell _ rfl) rfl ?_|refine RL.load aa rfl rfl rfl (hD.cell _ rfl) rfl ?_)
 by_cases h1:x.c<y.c
 ·refine RL.eqv (v':=.bool true) (xZ _ (by rw [sv];exact zW h1)) ?_
  repeat(first|refine RL.pure aa 1 rfl ?_|refine RL.load aa rfl rfl rfl (hB.cell _ rfl) rfl ?_|refine RL.load aa rfl rfl rfl (hD.cell _ rfl) rfl ?_)
  refine aa3 ?_;simp [aG.lt,h1]
 ·refine RL.eqv (v':=.bool false) (xZ _ (by rw [sv];exact zV h1)) ?_
  repeat(first|refine RL.pure aa 1 rfl ?_|refine RL.load aa rfl rfl rfl (hB.cell _ rfl) rfl ?_|refine RL.load aa rfl rfl rfl (hD.cell _ rfl) rfl ?_)
  by_cases h2:x.c=y.c
  ·refine RL.eqv (v':=.bool true) (xZ _ Jh) ?_
   repeat(first|refine RL.pure aa 1 rfl ?_|refine RL.load aa rfl rfl rfl (hB.cell _ rfl) rfl ?_|refine RL.load aa rfl rfl rfl (hD.cell _ rfl) rfl ?_)
   refine aa3 ?_;rw [sv];simp [aG.lt,h2]
  ·refine RL.eqv (v':=.bool false) (xZ _ Jf) ?_
   repeat(first|refine RL.pure aa 1 rfl ?_|refine RL.load aa rfl rfl rfl (hB.cell _ rfl) rfl ?_|refine RL.load aa rfl rfl rfl (hD.cell _ rfl) rfl ?_)
   refine aa3 ?_;simp [aG.lt,h1,h2]
end Go.Proofs.YtgpgladbdoimdaaGreatDoor
namespace Go.Ev
open Go.RowKit
structure az where
 own:List Nat
 P:World→List Nat→Prop
 lt:∀{m:World} {M:List Nat},P m M→∀k∈own,k<m.heap.size
 dC:∀{m m':World} {M M' N:List Nat},P m M→Ext m N m'→(∀k∈own,k∉N)→(∀k∈N,k<m.heap.size→k∈M)→(∀k∈M',k∈M∨m.heap.size≤k)→P m' M'
theorem az.less(A:az){m:World}{M M':List Nat}(h:A.P m M)(hM:∀k∈M',k∈M∨m.heap.size≤k):A.P m M':=A.dC h (Ext.refl m []) YA YA hM
def au(H:List az):List Nat:=H.flatMap az.own
theorem aS(A:az)(H:List az):au (A::H)=A.own++au H:=rfl
theorem cq(H F:List az):au (H++F)=au H++au F:=by simp [au]
theorem ll{H:List az}{k:Nat}:k∈au H↔∃A∈H,k∈A.own:=vS
structure oP(m:World)(X:List Nat)(H:List az):Prop where
 all:∀A∈H,A.P m (au H++X)
 nd:(au H).Nodup
 out:∀k∈au H,k∉X
structure Tr(m0:World)(M0 X:List Nat)(m:World)(H:List az):Prop where
 hold:oP m X H
 ext:Ext m0 M0 m
 fp:bp m0 M0 (au H)
 CX:∀k∈X,k<m0.heap.size
 mx:∀k∈M0,k∉X
section
variable{m0 m m':World} {M0 X:List Nat} {H H' F Pre:List az} {A B:az}
theorem oP.lt(h:oP m X H):∀k∈au H,k<m.heap.size:=fun k hk=>by
 obtain ⟨A,hA,hk⟩:=ll.1 hk;exact A.lt (h.all A hA) k hk
theorem oP.perm(h:oP m X H)(hp:H.Perm H'):oP m X H':=by
 have hf:(au H).Perm (au H'):=hp.flatMap_right _;exact ⟨fun A hA=>A.less (h.all A (hp.mem_iff.2 hA)) (fun k hk=>.inl (by rcases yL.1 hk with h1|h1<;>simp [h1,hf.mem_iff])),hf.nodup_iff.1 h.nd,fun k hk=>h.out k (hf.mem_iff.2 hk)⟩
theorem Tr.perm(h:Tr m0 M0 X m H)(hp:H.Perm H'):Tr m0 M0 X m H':=
 ⟨h.hold.perm hp,h.ext,fun k hk=>h.fp k ((hp.flatMap_right _).mem_iff.2 hk),h.CX,h.mx⟩
theorem oP.drop(h:oP m X (H++F)):oP m X H:=by
 have e:=cq H F;exact ⟨fun A hA=>A.less (h.all A (yW _ hA)) (fun k hk=>.inl (by rw [e];rcases yL.1 hk with h1|h1<;>simp [h1])),
  (yN.1 (e▸h.nd)).1,fun k hk=>h.out k (by rw [e];exact yW _ hk)⟩
theorem Tr.drop(h:Tr m0 M0 X m (H++F)):Tr m0 M0 X m H:=⟨h.hold.drop,h.ext,fun k hk=>h.fp k (by rw [cq];exact yW _ hk),h.CX,h.mx⟩
theorem Tr.tail(h:Tr m0 M0 X m (A::H)):Tr m0 M0 X m H:=(h.perm (H':=H++[A]) (by simpa using(xI (l₁:=[A]) (l₂:=H)))).drop
theorem Tr.start(h:oP m X H)(hx:∀k∈X,k<m.heap.size):Tr m (au H) X m H:=⟨h,Ext.refl _ _,bp.refl _ _,hx,h.out⟩
theorem Tr.head(h:Tr m0 M0 X m (A::H)):A.P m (au (A::H)++X):=h.hold.all A (zS ..)
theorem Tr.get(h:Tr m0 M0 X m H)(k:Nat)(hk:H[k]?=some A):A.P m (au H++X):=h.hold.all A (xU hk)
theorem oP.inner(h:oP m X (Pre++F)):oP m (au F++X) Pre:=by
 have e:=cq Pre F;have hn:=yN.1 (e▸h.nd);refine ⟨fun A hA=>A.less (h.all A (yW _ hA)) (fun k hk=>.inl (by rw [e];simpa [wM]using hk)),hn.1,fun k hk hx=>?_⟩;rcases yL.1 hx with h1|h1
 ·exact hn.2.2 k hk k h1 rfl
 ·exact h.out k (by rw [e];exact yW _ hk) h1
theorem Tr.inner(h:Tr m0 M0 X m (Pre++F)):Tr m (au Pre) (au F++X) m Pre:=
 Tr.start h.hold.inner (fun k hk=>by
  rcases yL.1 hk with h1|h1
  ·exact h.hold.lt k (by rw [cq];exact yX _ h1)
  ·exact wH (h.CX k h1) h.ext.size)
theorem Tr.outer(h:Tr m0 M0 X m (Pre++F))(h':Tr m (au Pre) (au F++X) m' H'):Tr m0 M0 X m' (H'++F):=by
 have e:=cq Pre F;have e':=cq H' F;have hn:=yN.1 (e▸h.hold.nd);refine ⟨⟨fun A hA=>?_,?_,fun k hk hx=>?_⟩,h.ext.trans h'.ext (fun k hk=>h.fp k (by rw [e];exact yW _ hk)),?_,h.CX,h.mx⟩
 ·rcases yL.1 hA with hA|hA
  ·exact A.less (h'.hold.all A hA) (fun k hk=>.inl (by rw [e']at hk;simpa [wM]using hk))
  ·refine A.dC (h.hold.all A (yX _ hA)) h'.ext (fun k hk hq=>hn.2.2 k hq k (ll.2 ⟨A,hA,hk⟩) rfl) (fun k hk _=>by rw [e];simp [hk]) (fun k hk=>?_);rw [e',wM]at hk;rcases yL.1 hk with h1|h1
   ·rcases h'.fp k h1 with h2|h2
    ·exact .inl (by rw [e];simp [h2])
    ·exact .inr h2
   ·exact .inl (by rw [e,wM];exact yX _ h1)
 ·rw [e'];exact yN.2 ⟨h'.hold.nd,hn.2.1,fun a ha b hb sM=>h'.hold.out a ha (yW _ (sM▸hb))⟩
 ·rw [e']at hk;rcases yL.1 hk with h1|h1
  ·exact h'.hold.out k h1 (yX _ hx)
  ·exact h.hold.out k (by rw [e];exact yX _ h1) hx
 ·intro k hk;rw [e']at hk;rcases yL.1 hk with h1|h1
  ·rcases h'.fp k h1 with h2|h2
   ·exact h.fp k (by rw [e];exact yW _ h2)
   ·exact .inr (wG h.ext.size h2)
  ·exact h.fp k (by rw [e];exact yX _ h1)
theorem Tr.AA(h:Tr m0 M0 X m (A::H))(hP:A.P m (au (A::H)++X)→B.P m (au (B::H)++X))(Bn:∀k∈B.own,k∈A.own)(qv:B.own.Nodup):Tr m0 M0 X m (B::H):=by
 have hn:=yN.1 (aS A H▸h.hold.nd);refine ⟨⟨fun C hC=>?_,?_,fun k hk=>?_⟩,h.ext,fun k hk=>?_,h.CX,h.mx⟩
 ·rcases yH.1 hC with rfl|hC
  ·exact hP h.head
  ·refine C.less (h.hold.all C (zO _ hC)) (fun k hk=>.inl ?_);simp only [aS,wM,yL]at hk ⊢;rcases hk with h1|h1
   ·exact .inl (Bn k h1)
   ·exact .inr h1
 ·rw [aS];exact yN.2 ⟨qv,hn.2.1,fun a ha b hb=>hn.2.2 a (Bn a ha) b hb⟩
 ·rw [aS]at hk;rcases yL.1 hk with h1|h1
  ·exact h.hold.out k (by rw [aS];exact yW _ (Bn k h1))
  ·exact h.hold.out k (by rw [aS];exact yX _ h1)
 ·rw [aS]at hk;rcases yL.1 hk with h1|h1
  ·exact h.fp k (by rw [aS];exact yW _ (Bn k h1))
  ·exact h.fp k (by rw [aS];exact yX _ h1)
theorem Tr.more(h:Tr m0 M0 X m H)(hB:B.own=[])(hP:B.P m (au H++X)):Tr m0 M0 X m (B::H):=by
 have e:au (B::H)=au H:=by rw [aS,hB];rfl
 exact ⟨⟨fun C hC=>by rw [e];rcases yH.1 hC with rfl|hC;exact hP;exact h.hold.all C hC,e▸h.hold.nd,e▸h.hold.out⟩,h.ext,e▸h.fp,h.CX,h.mx⟩
theorem Tr.dup(h:Tr m0 M0 X m (A::H))(hA:A.own=[]):Tr m0 M0 X m (A::A::H):=h.more hA h.head
theorem Tr.new(h:Tr m0 M0 X m H)(hE:Ext m [] m')(hN:∀k∈B.own,m.heap.size≤k)(qv:B.own.Nodup)(hP:B.P m' (au (B::H)++X)):Tr m0 M0 X m' (B::H):=by
 have h':Tr m (au []) (au H++X) m' [B]:=by
  refine ⟨⟨fun C hC=>?_,by simpa [au]using qv,fun k hk hx=>?_⟩,hE,fun k hk=>.inr (hN k (by simpa [au]using hk)),fun k hk=>?_,fun k hk=>by cases hk⟩
  ·have:C=B:=by simpa using hC
   subst this
   simpa [au]using hP
  ·have h1:=hN k (by simpa [au]using hk);rcases yL.1 hx with h2|h2
   ·have:=h.hold.lt k h2;omega
   ·have:=h.CX k h2;have:=h.ext.size;omega
  ·rcases yL.1 hk with h2|h2
   ·exact h.hold.lt k h2
   ·have:=h.CX k h2;have:=h.ext.size;omega
 exact (show Tr m0 M0 X m ([]++H) from h).outer h'
theorem Tr.step(h:Tr m0 M0 X m (A::H))(hE:Ext m A.own m')(hN:bp m A.own B.own)(qv:B.own.Nodup)(B2:∀k∈B.own,k∈au H++X→False)(hP:B.P m' (B.own++(au H++X))):Tr m0 M0 X m' (B::H):=by
 have e:au [A]=A.own:=by simp [au]
 have h':Tr m (au [A]) (au H++X) m' [B]:=by
  have hi:=Tr.inner (Pre:=[A]) (F:=H) h;refine ⟨⟨fun C hC=>?_,by simpa [au]using qv,fun k hk=>by exact B2 k (by simpa [au]using hk)⟩,e▸hE,fun k hk=>by rw [e];exact hN k (by simpa [au]using hk),hi.CX,hi.mx⟩;have:C=B:=by simpa using hC
  subst this
  simpa [au]using hP
 exact Tr.outer (Pre:=[A]) (F:=H) h h'
theorem Tr.gG(h:Tr m0 M0 X m (A::H))(hE:Ext m A.own m')(jh:B.own=A.own)(hP:B.P m' (au (A::H)++X)):Tr m0 M0 X m' (B::H):=by
 have hn:=yN.1 (aS A H▸h.hold.nd);refine h.step hE (jh▸bp.refl _ _) (jh▸hn.1) (fun k hk hx=>?_) (by rw [jh,←wM];exact hP);rw [jh]at hk;rcases yL.1 hx with h1|h1
 ·exact hn.2.2 k hk k h1 rfl
 ·exact h.hold.out k (by rw [aS];exact yW _ hk) h1
end
def HO{α:Type}:List Nat→List (Option α)→List α×List (Option α)
 |[],l=>([],l)
 |i::is,l=>match l[i]?with
  |some (some a)=>let r:=HO is (l.set i none);(a::r.1,r.2)
  |_=>HO is l
def pick{α:Type}(is:List Nat)(l:List α):List α×List α:=let r:=HO is (l.map some);(r.1,r.2.filterMap id)
def bu(P:Program)(f:FuncId)(args:List Value)(Pre:List az)(Post:Value→List az→Prop):Prop:=
 ∀(m:World) (X:List Nat),Tr m (au Pre) X m Pre→dg P f args m fun v m'=>∃H',Post v H'∧Tr m (au Pre) X m' H'
theorem bu.mono{P:Program}{f:FuncId}{args:List Value}{Pre:List az}{Post Post':Value→List az→Prop}(h:bu P f args Pre Post)(hp:∀v H,Post v H→Post' v H):bu P f args Pre Post':=
 fun m X hT=>(h m X hT).mono fun v _ ⟨H',h1,h2⟩=>⟨H',hp v H' h1,h2⟩
theorem bu.at{P:Program}{f:FuncId}{args:List Value}{Pre F:List az}{Post:Value→List az→Prop}{m0 m:World}{M0 X:List Nat}(h:bu P f args Pre Post)(hT:Tr m0 M0 X m (Pre++F)):
  dg P f args m fun v m'=>∃H',Post v H'∧Tr m0 M0 X m' (H'++F):=
 (h m _ hT.inner).mono fun _ _ ⟨H',h1,h2⟩=>⟨H',h1,hT.outer h2⟩
def ab(b:Nat)(t:TypeId)(cs:List Value):az where
 own:=[b]
 P:=fun m _=>bw m b t cs
 lt:=fun h k hk=>by have:k=b:=(by simpa using hk);subst this;exact h.lt
 dC:=fun h hE hn _ _=>h.ext hE (hn b YA)
def bW(sz:Nat)(v:Value)(xs:List Value):az where
 own:=[]
 P:=fun m M=>Sl m M sz v xs∧0<sz
 lt:=fun _ k hk=>by cases hk
 dC:=fun h hE _ hN hM=>⟨(Sl.ext (h.1.less (M':=_) (fun k hk=>.inl hk) h.2) (hE.mono (M':=_) hN) hM h.2),h.2⟩
def aF(S:List Nat)(t:TypeId)(sz:Nat)(v:Value)(n:Nat)(xs:List Value):az where
 own:=S
 P:=fun m _=>Own m S t sz v n xs
 lt:=fun h k hk=>h.lt k hk
 dC:=fun h hE hn _ _=>h.ext hE hn
def MU(p:Prop):az where
 own:=[]
 P:=fun _ _=>p
 lt:=fun _ k hk=>by cases hk
 dC:=fun h _ _ _ _=>h
section
variable{m0 m m':World} {M0 X:List Nat} {H:List az} {b sz n:Nat} {t:TypeId} {cs xs:List Value} {v:Value} {S:List Nat} {o:Obj}
theorem Tr.ro(h:Tr m0 M0 X m H)(k:Nat)(hk:H[k]?=some (bW sz v xs)):Sl m (au H++X) sz v xs:=(h.get k hk).1
theorem Own.nd(h:Own m S t sz v n xs):S.Nodup:=by
 rcases h.2 with⟨_,_,_,rfl⟩|⟨g,_,_,_,_,_,_,_,_,rfl⟩<;>simp
theorem Tr.alloc(h:Tr m0 M0 X m H)(hC:gD m b (.cells cs.toArray t (0,0)) m')(hb:b=m.heap.size):Tr m0 M0 X m' (ab b t cs::H):=
 h.new (hC.new J9) (fun k hk=>by have h1:k=b:=(by simpa [ab]using hk);omega) (by simp [ab]) hC.fc
theorem Tr.store{cs':List Value}(h:Tr m0 M0 X m (ab b t cs::H))(hC:gD m b (.cells cs'.toArray t (0,0)) m'):Tr m0 M0 X m' (ab b t cs'::H):=
 h.gG (A:=ab b t cs) (by simpa [ab]using hC.ext) rfl hC.fc
theorem Tr.freeze(h:Tr m0 M0 X m (aF S t sz v n xs::H))(cz:0<sz):Tr m0 M0 X m (bW sz v xs::H):=by
 have hn:=yN.1 (aS _ _▸h.hold.nd);refine h.AA (B:=bW sz v xs) (fun hP=>⟨Own.sl hP (fun k hk hx=>?_),cz⟩) (fun k hk=>by cases hk) (by simp [bW]);rw [aS]at hx;rcases yL.1 hx with h1|h1
 ·rcases yL.1 h1 with h2|h2
  ·cases h2
  ·exact hn.2.2 k hk k h2 rfl
 ·exact h.hold.out k (by rw [aS];exact yW _ hk) h1
theorem Tr.grow{S':List Nat}{v':Value}{n':Nat}{xs':List Value}(h:Tr m0 M0 X m (aF S t sz v n xs::H))(hO:Own m' S' t sz v' n' xs')(hE:Ext m S m')(hF:bp m S S'):Tr m0 M0 X m' (aF S' t sz v' n' xs'::H):=by
 have hn:=yN.1 (aS _ _▸h.hold.nd);refine h.step (A:=aF S t sz v n xs) hE hF hO.nd (fun k hk hx=>?_) hO;rcases hF k hk with h1|h1
 ·rcases yL.1 hx with h2|h2
  ·exact hn.2.2 k h1 k h2 rfl
  ·exact h.hold.out k (by rw [aS];exact yW _ h1) h2
 ·rcases yL.1 hx with h2|h2
  ·have:=h.hold.lt k (by rw [aS];exact yX _ h2);omega
  ·have:=h.CX k h2;have:=h.ext.size;omega
theorem Tr.made(h:Tr m0 M0 X m H)(hO:Own m' S t sz v n xs)(hN:ek m S m'):Tr m0 M0 X m' (aF S t sz v n xs::H):=
 h.new hN.1 (fun k hk=>hN.ge k hk) hO.nd hO
theorem Tr.calm(h:Tr m0 M0 X m H)(hE:Ext m [] m'):Tr m0 M0 X m' H:=(h.new (B:=MU True) hE (fun k hk=>by cases hk) (by simp [MU]) trivial).tail
theorem Tr.empty(h:Tr m0 M0 X m H)(t:TypeId)(sz:Nat)(A:Option Addr):Tr m0 M0 X m (aF [] t sz (.slice A 0 0) 0 []::H):=
 h.new (B:=aF [] t sz (.slice A 0 0) 0 []) (Ext.refl m []) (fun k hk=>by cases hk) (by simp [aF]) (Own.empty m t sz A)
end
section
variable{P:Program} {T:Ty} {ops:Array Oper} {Q:Exit→Act→World→Prop} {rest:List Oper} {n:Nat} {e e':Env} {D:Fr} {m0 m:World} {M0 X:List Nat} {H F Pre:List az}
 {d:Option Tmp} {x y:Operand} {t ty:TypeId} {pos:String} {aft:Array Edge} {g:Option (Nat×Bool)} {v:Value} {r:Row}
theorem RL.aU(hT:T.Ok P)(hr:T.row t=some r)(hS:Tr m0 M0 X m H){cs:List Value}(x9:r.zero.cells=cs.toArray)(hg:gd ops e ⟨d,.alloc t,ty,pos,aft,g⟩=some true)
  (h:∀b m',Tr m0 M0 X m' (ab b t cs::H)→∃e',aQ n d (.pointer (some ⟨b,0,none⟩)) e=some e'∧RL P ops Q rest n e' D m'):RL P ops Q (⟨d,.alloc t,ty,pos,aft,g⟩::rest) n e D m:=
 RL.alloc hT hr hg (fun b m' hb hC=>h b m' (hS.alloc (x9▸hC) hb))
theorem RL.bn(hS:Tr m0 M0 X m H){cs:List Value}(hx:e.ev x=some v)(x9:v.cells=cs.toArray)(hg:gd ops e ⟨d,.box t x,ty,pos,aft,g⟩=some true)
  (h:∀b m',Tr m0 M0 X m' (ab b t cs::H)→∃e',aQ n d (.pointer (some ⟨b,0,none⟩)) e=some e'∧RL P ops Q rest n e' D m'):RL P ops Q (⟨d,.box t x,ty,pos,aft,g⟩::rest) n e D m:=
 RL.box hx hg (fun b m' hb hC=>h b m' (hS.alloc (x9▸hC) hb))
end
inductive sY(A:az):List az→List az→Prop
 |head {H:List az}:sY A (A::H) H
 |tail {B:az} {H H':List az}:sY A H H'→sY A (B::H) (B::H')
theorem sY.perm{A:az}{H H':List az}(h:sY A H H'):H.Perm (A::H'):=by
 induction h with
 |head=>exact .refl _
 |tail _ ih=>exact (ih.cons _).trans (.swap ..)
inductive bk:List az→List az→List az→Prop
 |nil {H:List az}:bk [] H H
 |ro {A:az} {Pre H F:List az}:A∈H→A.own=[]→bk Pre H F→bk (A::Pre) H F
 |own {A:az} {Pre H H1 F:List az}:sY A H H1→bk Pre H1 F→bk (A::Pre) H F
theorem bk.tr{m0 m:World}{M0 X:List Nat}{Pre H F:List az}(h:bk Pre H F):∀(G:List az),Tr m0 M0 X m (G++H)→Tr m0 M0 X m (G++(Pre++F)):=by
 induction h with
 |nil=>intro G h;exact h
 |@ro A Pre H F hA ho _ ih=>
  intro G h;have h1:Tr m0 M0 X m (A::(G++H)):=h.more ho (h.hold.all A (yX _ hA));have h2:=ih (G++[A]) (h1.perm (by
   rw [wM];exact (vU (l₁:=G) (a:=A) (l₂:=H)).symm))
  simpa [wM]using h2
 |@own A Pre H H1 F hs _ ih=>
  intro G h;have h2:=ih (G++[A]) (h.perm (by rw [wM];exact (hs.perm.append_left G)))
  simpa [wM]using h2
theorem Tr.aH{m0 m:World}{M0 X:List Nat}{Pre H F:List az}(h:Tr m0 M0 X m H)(hs:bk Pre H F):Tr m0 M0 X m (Pre++F):=hs.tr [] h
inductive kq(A B:az):List az→List az→Prop
 |head {H:List az}:kq A B (A::H) (B::H)
 |tail {C:az} {H H':List az}:kq A B H H'→kq A B (C::H) (C::H')
theorem kq.perms{A B:az}{H H':List az}(h:kq A B H H'):∃F,H.Perm (A::F)∧(B::F).Perm H':=by
 induction h with
 |@head H=>exact ⟨H,.refl _,.refl _⟩
 |@tail C _ _ _ ih=>
  obtain ⟨F,h1,h2⟩:=ih;exact ⟨C::F,(h1.cons C).trans (.swap ..),(List.Perm.swap ..).trans (h2.cons C)⟩
inductive an(H:List az):List az→Prop
 |nil:an H []
 |cons {A:az} {L:List az}:A∈H→an H L→an H (A::L)
theorem an.mem{H L:List az}{A:az}(h:an H L)(hA:A∈L):A∈H:=by
 induction h with
 |nil=>cases hA
 |cons h1 _ ih=>
  rcases yH.1 hA with rfl|h2
  ·exact h1
  ·exact ih h2
section
variable{m0 m m':World} {M0 X:List Nat} {H H':List az} {A:az}
theorem Tr.mem(h:Tr m0 M0 X m H)(hA:A∈H):A.P m (au H++X):=h.hold.all A hA
theorem Tr.UZ{b:Nat}{tb:TypeId}{cs cs':List Value}(h:Tr m0 M0 X m H)(hr:kq (ab b tb cs) (ab b tb cs') H H')(hC:gD m b (.cells cs'.toArray tb (0,0)) m'):Tr m0 M0 X m' H':=by
 obtain ⟨F,h1,h2⟩:=hr.perms;exact ((h.perm h1).store hC).perm h2
theorem Tr.MY{S S':List Nat}{t:TypeId}{sz n n':Nat}{v v':Value}{xs xs':List Value}(h:Tr m0 M0 X m H)(hr:kq (aF S t sz v n xs) (aF S' t sz v' n' xs') H H')(hO:Own m' S' t sz v' n' xs')(hE:Ext m S m')(hF:bp m S S'):Tr m0 M0 X m' H':=by
 obtain ⟨F,h1,h2⟩:=hr.perms;exact ((h.perm h1).grow hO hE hF).perm h2
theorem Tr.gV(h:Tr m0 M0 X m H)(sz:Nat)(cz:0<sz):Tr m0 M0 X m (bW sz (.slice none 0 0) []::H):=h.more (B:=bW sz (.slice none 0 0) []) rfl ⟨Sl.nil _ _ _,cz⟩
theorem Tr.shape{S:List Nat}{t:TypeId}{sz n:Nat}{v:Value}{xs:List Value}(h:Tr m0 M0 X m (aF S t sz v n xs::H)):∃A c,v=.slice A n c∧n≤c:=Own.shape h.head
def JS(m0:World)(M0 X:List Nat)(L:List az)(m:World):Prop:=∃H,Tr m0 M0 X m H∧an H L
end
section
variable{P:Program} {T:Ty} {ops:Array Oper} {Q:Exit→Act→World→Prop} {l l' rest:List Oper} {n:Nat} {e e':Env} {D:Fr} {ds:List Deferred} {m0 m:World} {M0 X:List Nat} {H H' F Pre L:List az}
 {d:Option Tmp} {x y:Operand} {t ty:TypeId} {pos:String} {aft:Array Edge} {g:Option (Nat×Bool)} {v:Value} {r:Row} {J:World→Prop} {fin:List Nat} {fuel:Nat} {listed:Array Bool}
theorem RL.nj(hT:T.Ok P)(h:AB T ops n 60 e l=(e',l'))(_hl:Nat.blt l'.length l.length=true)(hk:RL P ops Q l' n e' D m):RL P ops Q l n e D m:=gU hT 60 e l e' l' h hk
theorem RL.iU(hT:T.Ok P)(hS:Tr m0 M0 X m H){b i:Nat}{tb:TypeId}{cs:List Value}(hg:gd ops e ⟨d,.load t x,ty,pos,aft,g⟩=some true)(hx:e.ev x=some (.pointer (some ⟨b,i,none⟩)))(ht:T.plain t=true)
  (hk:ab b tb cs∈H)(hc:cs[i]?=some v)(hp:aQ n d v e=some e')(h:RL P ops Q rest n e' D m):RL P ops Q (⟨d,.load t x,ty,pos,aft,g⟩::rest) n e D m:=
 RL.load hT hg hx ht (bw.cell (hS.mem hk) i hc) hp h
theorem RL.Tg(hT:T.Ok P)(hS:Tr m0 M0 X m H){b i k:Nat}{tb:TypeId}{cs vs:List Value}(hg:gd ops e ⟨d,.load t x,ty,pos,aft,g⟩=some true)(hx:e.ev x=some (.pointer (some ⟨b,i,none⟩)))(ht:T.jB t=some k)
  (hk:ab b tb cs∈H)(hv:(cs.drop i).take k=vs)(hl:vs.length=k)(hp:aQ n d (.agg vs.toArray) e=some e')(h:RL P ops Q rest n e' D m):RL P ops Q (⟨d,.load t x,ty,pos,aft,g⟩::rest) n e D m:=by
 subst hl;refine RL.aJ hT vs hg hx ht (fun j u hu=>?_) hp h;rw [av];refine bw.cell (hS.mem hk) _ ?_;have hj:=(yV.1 hu).1;rw [←hv,xV,yS hj,vA]at hu;exact hu
theorem RL.aO(hT:T.Ok P)(hS:Tr m0 M0 X m H){b i:Nat}{tb:TypeId}{cs:List Value}(hg:gd ops e ⟨d,.store t x y,ty,pos,aft,g⟩=some true)
  (hx:e.ev x=some (.pointer (some ⟨b,i,none⟩)))(hy:e.ev y=some v)(ht:T.plain t=true)(h1:v.oneCell'=true)(hp:aQ n d undef e=some e')(hr:kq (ab b tb cs) (ab b tb (cs.set i v)) H H')(hi:Nat.blt i cs.length=true)
  (h:∀m',Tr m0 M0 X m' H'→RL P ops Q rest n e' D m'):RL P ops Q (⟨d,.store t x y,ty,pos,aft,g⟩::rest) n e D m:=by
 have hB:bw m b tb cs:=by
  obtain ⟨F,h1,_⟩:=hr.perms;exact hS.mem (A:=ab b tb cs) (h1.mem_iff.2 (zS ..))
 exact RL.store hT hB (by simpa using hi) hg hx hy ht h1 hp (fun m' hC=>h m' (hS.UZ hr hC))
theorem RL.er(hT:T.Ok P)(hS:Tr m0 M0 X m H){b i q:Nat}{tb:TypeId}{cs vs:List Value}(hg:gd ops e ⟨d,.store t x y,ty,pos,aft,g⟩=some true)
  (hx:e.ev x=some (.pointer (some ⟨b,i,none⟩)))(hy:e.ev y=some (.agg vs.toArray))(ht:T.jB t=some q)(hq:vs.length=q)(h1:vs.all Value.oneCell'=true)(hp:aQ n d undef e=some e')(hr:kq (ab b tb cs) (ab b tb (cs.take i++vs++cs.drop (i+q))) H H')(hi:Nat.ble (i+q) cs.length=true)
  (h:∀m',Tr m0 M0 X m' H'→RL P ops Q rest n e' D m'):RL P ops Q (⟨d,.store t x y,ty,pos,aft,g⟩::rest) n e D m:=by
 have hB:bw m b tb cs:=by
  obtain ⟨F,h1,_⟩:=hr.perms;exact hS.mem (A:=ab b tb cs) (h1.mem_iff.2 (zS ..))
 exact RL.bF hT hB hg hx hy ht hq (yU hi) (wX.1 h1) hp (fun m' hC=>h m' (hS.UZ hr hC))
theorem RL.dr{f:FuncId}{fo:Operand}{xs:Array Operand}{ts:Array TypeId}{fi ca:List Value}{vs al:List Value}{Post:Value→List az→Prop}(hS:Tr m0 M0 X m H)(hc:bu P f al Pre Post)
  (hg:gd ops e ⟨d,.call ⟨.value fo,xs,ts⟩,ty,pos,aft,g⟩=some true)
  (nk:e.ev fo=some (.func (.func f) fi.toArray ca.toArray))(fI:e.kj xs.toList=some vs)(has:fi++vs++ca=al)(hs:bk Pre H F)
  (h:∀v m' H',Post v H'→Tr m0 M0 X m' (H'++F)→∃e',aQ n d v e=some e'∧RL P ops Q rest n e' D m'):RL P ops Q (⟨d,.call ⟨.value fo,xs,ts⟩,ty,pos,aft,g⟩::rest) n e D m:=
 RL.call hg nk fI has (hc.at (hS.aH hs)) (fun v m' ⟨H',h1,h2⟩=>h v m' H' h1 h2)
theorem RL.dh(hT:T.Ok P)(hS:Tr m0 M0 X m H){te:TypeId}{d1:Tmp}{S:List Nat}{s:Value}{nn k:Nat}{xs:List Value}{parts:Array (Nat×Operand)}(ys:List Operand){us:List Value}(news:List Value){ty1:TypeId}{pos1:String}{aft1:Array Edge}
  (he:T.elem t=some (te,r))(mz:parts=(eU 0 ys).toArray)(hk:ys.length=k)(dP:Nat.blt 0 k=true)(jg:Nat.ble k 16000=true)(VO:uo x d1=true)(MN:Nat.blt d1 n=true)
  (hx:e.ev x=some s)(Fs:e.kj ys=some us)(x9:us.flatMap (·.cells.toList)=news)(hr:sY (aF S te r.size s nn xs) H F)(hu:∀u∈us,u.cells.size=r.size)(h1:∀u∈news,u.oneCell'=true)(gj:nn+k≤maxLen)(dn:(nn+k)*r.bytes≤140737488355328)
  (h:∀b v' m' S',Tr m0 M0 X m' (aF S' te r.size v' (nn+k) (xs++news)::F)→∃e',aQ n d v' ((d1,.slice (some ⟨b,0,none⟩) k k)::e)=some e'∧RL P ops Q rest n e' D m'):
  RL P ops Q (⟨some d1,.buildSlice t k parts,ty1,pos1,aft1,none⟩::⟨d,.call ⟨.builtin .append,#[x,.tmp d1],#[t,t]⟩,ty,pos,aft,none⟩::rest) n e D m:=by
 have iG:=hS.perm hr.perm;exact RL.dZ hT ys (show Own m S te r.size s nn xs from iG.head) news he mz hk dP jg VO MN hx Fs hu x9 h1 gj dn (fun v' m' S' hO hE hF=>h _ v' m' S' (iG.grow hO hE hF))
theorem RL.dx(hT:T.Ok P)(hS:Tr m0 M0 X m H){te tx:TypeId}{S:List Nat}{s sx:Value}{nn k:Nat}{xs:List Value}(news:List Value)
  (he:T.elem t=some (te,r))(mJ:T.ua tx te=true)
  (hg:gd ops e ⟨d,.call ⟨.builtin .append,#[x,y],#[t,tx]⟩,ty,pos,aft,g⟩=some true)(hx:e.ev x=some s)(hy:e.ev y=some sx)(hr:sY (aF S te r.size s nn xs) H F)(mA:Src P r.size m sx k news)(hl:news.length=k*r.size)
  (h1:∀u∈news,u.oneCell'=true)(gj:nn+k≤maxLen)(dn:(nn+k)*r.bytes≤140737488355328)
  (h:∀v' m' S',Tr m0 M0 X m' (aF S' te r.size v' (nn+k) (xs++news)::F)→∃e',aQ n d v' e=some e'∧RL P ops Q rest n e' D m'):
  RL P ops Q (⟨d,.call ⟨.builtin .append,#[x,y],#[t,tx]⟩,ty,pos,aft,g⟩::rest) n e D m:=by
 have iG:=hS.perm hr.perm;exact RL.append hT (show Own m S te r.size s nn xs from iG.head) news mA he mJ hg hx hy hl h1 gj dn (fun v' m' S' hO hE hF=>h v' m' S' (iG.grow hO hE hF))
theorem RH.iU(hT:T.Ok P)(hQ:ai Q)(i:Nat){b j:Nat}{tb:TypeId}{cs:List Value}(hi:ops[i]?=some ⟨d,.load t x,ty,pos,aft,g⟩)(hB:(be ops&&bq ops fin listed [i])=true)(hg:gd ops e ⟨d,.load t x,ty,pos,aft,g⟩=some true)(hx:e.ev x=some (.pointer (some ⟨b,j,none⟩)))(ht:T.plain t=true)
  (hk:ab b tb cs∈L)(hc:cs[j]?=some v)(hp:aQ n d v e=some e')(h:RH P ops Q (JS m0 M0 X L) fin fuel (listed.setIfInBounds i true) n e' D m):RH P ops Q (JS m0 M0 X L) fin (fuel+1) listed n e D m:=
 RH.load hT hQ i (fun _m' ⟨_,hS,hL⟩=>bw.cell (hS.mem (hL.mem hk)) j hc) hi hB hg hx ht hp h
theorem RH.ry(hT:T.Ok P)(hQ:ai Q)(i:Nat){b j k:Nat}{tb:TypeId}{cs vs:List Value}(hi:ops[i]?=some ⟨d,.load t x,ty,pos,aft,g⟩)(hB:(be ops&&bq ops fin listed [i])=true)(hg:gd ops e ⟨d,.load t x,ty,pos,aft,g⟩=some true)(hx:e.ev x=some (.pointer (some ⟨b,j,none⟩)))(ht:T.jB t=some k)
  (hk:ab b tb cs∈L)(hv:(cs.drop j).take k=vs)(hl:vs.length=k)(hp:aQ n d (.agg vs.toArray) e=some e')(h:RH P ops Q (JS m0 M0 X L) fin fuel (listed.setIfInBounds i true) n e' D m):RH P ops Q (JS m0 M0 X L) fin (fuel+1) listed n e D m:=by
 subst hl;refine RH.aJ hT hQ i vs (fun m' ⟨_,hS,hL⟩ q u hu=>?_) hi hB hg hx ht hp h;rw [av];refine bw.cell (hS.mem (hL.mem hk)) _ ?_;have hj:=(yV.1 hu).1;rw [←hv,xV,yS hj,vA]at hu;exact hu
theorem RH.aD{i:Nat}(hS:Tr m0 M0 X m H)(hL:an H L)(h:RH P ops Q (JS m0 M0 X L) fin fuel listed n e D m):QN (Exit.then (iK D.ro P ops Q (JS m0 M0 X L) fin i fuel listed) Q) .normal n e D m:=RH.cont ⟨H,hS,hL⟩ h
end
end Go.Ev
namespace Go.Proofs.YtgpgladbdoimdaaGreatDoor
open Go.RowKit Go.Ev
theorem BY(m:World)(k:Nat)(hk:k<1000000000):
  dg Tryz.prog 200 [.slice none 0 0,.int .i64 k] m fun r m'=>∃S',Ev.Own m' S' 167 3 r 0 []∧ek m S' m':=by
 refine aP.zA Tryz.func200 ?_;refine af5 ?_;refine WP.cond rfl (fun hc=>absurd (xS hc) J9) (fun _=>?_);refine ab7 ?_;refine RL.pure aa 7 rfl ?_;refine RL.eqv (v':=.int .i64 k) (xZ _ JE) ?_;refine RL.sub (e':=[(14,.int .i64 k),(0,.slice none 0 0)]) YC ?_;refine aa0 ?_;refine aa0 ?_;refine WP.cond rfl (fun hc=>?_) (fun hc=>?_)
 ·have hc:0<k:=by have:=xS hc;omega
  refine ai1 ?_;refine RL.sliceTo (l:=0) aa rfl rfl rfl rfl rfl (yP _) rfl ?_;refine ab3 ?_;refine RL.rQ aa rfl rfl rfl rfl rfl rfl hc Jy (by show k*24≤_;omega) ?_;intro cap cur m1 hB h1 h2 h3 hE;refine aa1 ?_;refine ab3 ?_;refine RL.sliceTo (l:=0) aa rfl rfl rfl rfl rfl (yI _) rfl ?_;refine aa0 ?_;refine ac0 ?_;exact QN.aj rfl rfl ⟨_,rfl,_,Own.RZ hB h2 h3,hE,fun q hq=>.inr (by have h9:q=m.heap.size:=J3;omega)⟩
 ·refine ab7 ?_;refine ac0 ?_;exact QN.aj rfl rfl ⟨_,rfl,[],Own.empty _ _ _ _,Ext.refl _ _,bp.nil _ _⟩
theorem uu(m:World)(v:Value)(vs:List Value)(xss:List (List Value))(ns:List Nat)(hv:Sl m [] 1 v vs)(sI:vs.length=xss.length)(zy:ns.length=xss.length)
  (hs:∀(i:Nat) (u:Value) (xs:List Value) (k:Nat),vs[i]?=some u→xss[i]?=some xs→ns[i]?=some k→Sl m [] 3 u xs∧xs.length=k*3)(h1:∀xs∈xss,∀u∈xs,u.oneCell'=true)(E7:ns.sum<1000000000)(hlen:vs.length<1000000000):
  dg Tryz.prog 161 [v] m fun r m'=>∃S',Ev.Own m' S' 167 3 r ns.sum xss.flatten∧ek m S' m':=by
 obtain ⟨A,c,rfl,TG,_⟩:=hv.shape (n:=vs.length) YA J9;have vy:∀j,(ns.take j).sum≤ns.sum:=fun j=>by
  have:=xZ List.sum (yG j ns);rw [List.sum_append]at this;omega
 have bo:∀j (h:j<ns.length),(ns.take (j+1)).sum=(ns.take j).sum+ns[j]:=fun j h=>by rw [vN h,List.sum_append];simp
 have Gh:∀j (h:j<xss.length),(xss.take (j+1)).flatten=(xss.take j).flatten++xss[j]:=fun j h=>by rw [vN h,List.flatten_append];simp
 refine aP.zA Tryz.func161 ?_;refine af5 ?_;refine aa0 ?_;refine (WP.loop (X:=Nat) (fun i=>[(0,.slice A vs.length c),(9,.slice A vs.length c),(10,.int .i64 vs.length),(3,.int .i64 (ns.take i).sum),(11,.int .i64 i)]) (fun i m'=>i≤vs.length∧m'=m) (fun i=>vs.length-i) 0
  YC ⟨YA,rfl⟩ ?_)
 rintro i m1 ⟨hi,rfl⟩;refine aa8 ?_;refine WP.cond rfl (fun hc=>?_) (fun hc=>?_)
 ·have hc:i<vs.length:=by have:=xS hc;omega
  obtain ⟨hS,hk⟩:=hs i vs[i] xss[i] ns[i] (xW _) (xW _) (xW _);obtain ⟨A1,c1,he,_,_⟩:=hS.shape hk J9;have hle:ns[i]≤ns.sum:=by have:=bo i J9;have:=vy (i+1);omega
  have Pc:=vy i;refine WP.skip (YE ?_);refine RL.index aa hv (k:=i) rfl hc rfl rfl rfl rfl (fun ad _ _ bN=>⟨_,rfl,?_⟩);have hx:=bN 0 vs[i] YA;refine RL.load aa rfl rfl rfl Jo rfl ?_;refine RL.eqv he ?_;refine RL.A1 aa rfl ?_;refine RL.N1 (YE ?_);refine RL.pure aa 3 rfl ?_;refine RL.pure aa 1 rfl ?_;refine RL.eqv (v':=.int .i64 (ns.take (i+1)).sum) (xZ _ JF) ?_;have Wg:=vy (i+1);refine RL.A1 aa rfl ?_;refine RL.N1 (YE ?_);refine RL.A1 aa rfl ?_;refine RL.N1 (YE ?_);refine WP.bg (by exact xZ (fun q=>some (Value.bool q)) (zV J9)) ?_;refine WP.skip (YE ?_);refine RL.A1 aa rfl ?_;refine RL.N1 (QN.round (i+1) (Sub.C1 rfl (Sub.C1 rfl (Sub.C1 rfl (Sub.C1 rfl (Sub.C1 ?_ Sub.nil))))) ⟨J9,rfl⟩ J9);show some (Value.int .i64 (IntKind.i64.wrap ((i:Int)+1)))=some (Value.int .i64 ((i+1:Nat):Int));rw [ag _ J9 J9];rfl
 ·have hc:i=vs.length:=by have:=vX hc;omega
  subst hc;refine ac2 ?_;have e0:ns.take vs.length=ns:=by rw [sI,←zy,wF]
  rw [e0];refine ab3 ?_;refine zM (BY m1 ns.sum E7) ?_;rintro r m2 ⟨S2,gJ,jr⟩;refine ai2 ?_;refine aa0 ?_;refine (WP.loop (X:=Nat×Value×List Nat) (fun x=>[(25,.slice A vs.length c),(26,.int .i64 vs.length),(6,x.2.1),(27,.int .i64 x.1)])
   (fun x m'=>x.1≤vs.length∧Ev.Own m' x.2.2 167 3 x.2.1 (ns.take x.1).sum (xss.take x.1).flatten∧ek m1 x.2.2 m') (fun x=>vs.length-x.1) (0,r,S2)
   YC ⟨YA,by simpa using gJ,jr⟩ ?_)
  rintro ⟨i,u,S3⟩ m3 ⟨hi,km,fG⟩;simp only at hi km fG;refine aa8 ?_;refine WP.cond rfl (fun hc=>?_) (fun hc=>?_)
  ·have hc:i<vs.length:=by have:=xS hc;omega
   obtain ⟨hS,hk⟩:=hs i vs[i] xss[i] ns[i] (xW _) (xW _) (xW _);obtain ⟨A1,c1,he,_,_⟩:=hS.shape hk J9;have hle:=bo i J9;have Pc:=vy (i+1);have Rz:=hv.ext (M':=[]) fG.1 YA J9;have Rc:=hS.ext (M':=[]) fG.1 YA J9;refine WP.skip (YE ?_);refine RL.index aa Rz (k:=i) rfl hc rfl rfl rfl rfl (fun ad _ _ bN=>⟨_,rfl,?_⟩);have hx:=bN 0 vs[i] YA;refine RL.load aa rfl rfl rfl Jo rfl ?_;rw [he]at Rc;refine RL.eqv he ?_;refine RL.A1 aa rfl ?_;refine RL.N1 (YE ?_);refine RL.A1 aa rfl ?_;refine RL.append aa km _ (Src.cS Rc) rfl rfl rfl rfl rfl hk (h1 _ (vF _)) Jy (by show(_+_)*24≤_;omega) ?_;intro u4 m4 S4 gl eQ xx;refine ⟨_,rfl,?_⟩;refine RL.A1 aa rfl ?_;refine RL.N1 (YE ?_);refine RL.A1 aa rfl ?_;rw [←hle,←Gh i J9]at gl;have lX:ek m1 S4 m4:=⟨fG.1.trans eQ (fun k hk=>.inr (fG.ge k hk)),fG.2.trans xx fG.1.size⟩;refine RL.N1 (QN.round (i+1,u4,S4) (Sub.C1 rfl (Sub.C1 rfl (Sub.C1 rfl (Sub.C1 ?_ Sub.nil)))) ⟨by show i+1≤_;omega,gl,lX⟩ Jj);show some (Value.int .i64 (IntKind.i64.wrap ((i:Int)+1)))=some (Value.int .i64 ((i+1:Nat):Int));rw [ag _ J9 J9];rfl
  ·have hc:i=vs.length:=by have:=vX hc;omega
   subst hc;refine ac2 ?_;have e1:ns.take vs.length=ns:=by rw [sI,←zy,wF]
   have e2:xss.take vs.length=xss:=by rw [sI,wF]
   rw [e1,e2]at km;refine ac0 ?_;exact QN.aj rfl rfl ⟨_,rfl,S3,km,fG⟩
end Go.Proofs.YtgpgladbdoimdaaGreatDoor
