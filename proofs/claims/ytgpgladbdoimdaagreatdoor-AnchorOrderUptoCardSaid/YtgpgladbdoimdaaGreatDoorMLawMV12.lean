/- Texts that belong together. -/
import Derived.Test.YtgpgladbdoimdaaGreatDoorMLawMV11
namespace Go.Proofs.YtgpgladbdoimdaaGreatDoor
open Go.Ids Go.SeqP
structure RN where
 u:Un
 p:Option Nat
 s:Bool
 A:List Nat
 B:List Nat
structure dY(q:Us)(ns:List RN):Prop where
 us:ns.map (·.u)=q.us
 at_:∀i p s a b,Fo.At q.F none false i p s a b→∃d,ns[i]?=some d∧d.p=p∧d.s=s∧d.A=a.roots∧d.B=b.roots
end Go.Proofs.YtgpgladbdoimdaaGreatDoor
namespace Go.Proofs.YtgpgladbdoimdaaGreatDoor.dY
section
open Go.Ids Go.SeqP
variable{q:Us} {ns:List RN} {x:Un}
theorem len(h:dY q ns):ns.length=q.us.length:=by rw [←h.us,uF]
theorem get(h:dY q ns){i:Nat}(hi:i<q.us.length):∃d,ns[i]?=some d∧d.u=q.u i:=by
 have hl:=h.len;refine ⟨ns[i]'(by omega),xW _,?_⟩
 have h1:=Us.Mc hi;rw [←h.us,xM,xW J9]at h1;exact yR h1
theorem node(h:dY q ns)(k:q.Ok){i:Nat}(hi:i<q.us.length):∃d p s a b,ns[i]?=some d∧Fo.At q.F none false i p s a b∧db q.F i=(a,b)∧d.u=q.u i∧d.p=p∧d.s=s∧d.A=a.roots∧d.B=b.roots:=by
 obtain ⟨p,s,a,b,hA⟩:=Fo.At.dV none false ((k.mem i).2 hi);obtain ⟨d,h1,h2⟩:=h.at_ i p s a b hA;obtain ⟨d',h3,h4⟩:=h.get hi;rw [h1]at h3;cases h3;exact ⟨d,p,s,a,b,h1,hA,At.db hA k.nd,h4,h2⟩
theorem put(h:dY q ns)(k:q.Ok)(hr:x.id.right=true)(hn:q.idx x.id=none){pa:Option Nat}{sd:Bool}{kk:Nat}{up:List Nat}(g:Grown q.F (q.put x).F q.us.length pa sd kk up (q.pl x)){ns':List RN}
  (h1:ns'.map (·.u)=q.us++[x])(h2:ns'[q.us.length]?=some ⟨x,pa,sd,[],[]⟩)
  (h3:∀i d,ns[i]?=some d→∃d',ns'[i]?=some d'∧d'.p=d.p∧d'.s=d.s∧d'.A=(if pa=some i∧sd=true then aB kk q.us.length d.A else d.A)∧d'.B=(if pa=some i∧sd=false then aB kk q.us.length d.B else d.B)):dY (q.put x) ns':=by
 have ok':=k.put hr hn;refine ⟨h1,fun i p s a b hA=>?_⟩;rcases g.old hA with⟨rfl,rfl,rfl,rfl⟩|⟨dP,a0,b0,IW,e1,e2,_⟩
 ·obtain ⟨_,rfl,_,_⟩:=g.new.uniq hA ok'.nd;exact ⟨_,h2,rfl,rfl,rfl,rfl⟩
 ·obtain ⟨d,hd,f1,f2,f3,f4⟩:=h.at_ i p s a0 b0 IW;obtain ⟨d',ug,g1,g2,g3,g4⟩:=h3 i d hd;exact ⟨d',ug,g1.trans f1,g2.trans f2,by rw [g3,f3,e1],by rw [g4,f4,e2]⟩
theorem left(h:dY q ns)(k:q.Ok)(hr:x.id.right=true)(hn:q.idx x.id=none){r:Nat}(hl:q.bA x=some r){d:RN}(hd:ns[r]?=some d)(hA:d.A=(db q.F r).1.roots):
  dY (q.put x) ((ns++[(⟨x,some r,true,[],[]⟩:RN)]).set r {d with A:=aB (q.kL d.A x.id) q.us.length d.A})∧(q.put x).F.roots=q.F.roots:=by
 obtain ⟨pa,sd,kk,up,g,_,_,g1,_⟩:=k.grown x;obtain ⟨rfl,rfl,rfl,_⟩:=g1 r hl;have hlen:=h.len;have iD:r<ns.length:=(yV.1 hd).1;refine ⟨h.put k hr hn g ?_ ?_ fun i e he=>?_,by rw [g.roots,zX YA]⟩
 ·rw [List.map_set,uJ,h.us];refine uQ fun j=>?_
  rw [uR]
  split
  ·rename_i hj;subst hj;rw [yS J6,vJ J9,←h.us,xM,hd];rfl
  ·rfl
 ·rw [List.getElem?_set_ne J9,vM J9,hlen,tG];rfl
 ·have iA:=(yV.1 he).1
  by_cases hi:r=i
  ·subst hi;rw [hd]at he;cases he;refine ⟨{d with A:=aB (q.kL d.A x.id) q.us.length d.A},by rw [List.getElem?_set_self J6],rfl,rfl,?_,YA⟩;rw [yS ⟨rfl,rfl⟩,←hA]
  ·exact ⟨e,by rw [List.getElem?_set_ne hi,vJ iA,he],rfl,rfl,by simp [hi],YA⟩
theorem right(h:dY q ns)(k:q.Ok)(hr:x.id.right=true)(hn:q.idx x.id=none)(hl:q.bA x=none){r:Nat}(uj:q.idx x.l=some r){d:RN}(hd:ns[r]?=some d)(hB:d.B=(db q.F r).2.roots):
  dY (q.put x) ((ns++[(⟨x,some r,false,[],[]⟩:RN)]).set r {d with B:=aB (q.kR d.B x) q.us.length d.B})∧(q.put x).F.roots=q.F.roots:=by
 obtain ⟨pa,sd,kk,up,g,_,_,_,g2⟩:=k.grown x;obtain ⟨rfl,Et,g3,_⟩:=g2 hl;obtain ⟨rfl,_⟩:=g3 r uj;rw [uj]at Et;subst Et;have hlen:=h.len;have iD:r<ns.length:=(yV.1 hd).1;refine ⟨h.put k hr hn g ?_ ?_ fun i e he=>?_,by rw [g.roots,zX YA]⟩
 ·rw [List.map_set,uJ,h.us];refine uQ fun j=>?_
  rw [uR]
  split
  ·rename_i hj;subst hj;rw [yS J6,vJ J9,←h.us,xM,hd];rfl
  ·rfl
 ·rw [List.getElem?_set_ne J9,vM J9,hlen,tG];rfl
 ·have iA:=(yV.1 he).1
  by_cases hi:r=i
  ·subst hi;rw [hd]at he;cases he;refine ⟨{d with B:=aB (q.kR d.B x) q.us.length d.B},by rw [List.getElem?_set_self J6],rfl,rfl,YA,?_⟩;rw [yS ⟨rfl,rfl⟩,←hB]
  ·exact ⟨e,by rw [List.getElem?_set_ne hi,vJ iA,he],rfl,rfl,YA,by simp [hi]⟩
theorem root(h:dY q ns)(k:q.Ok)(hr:x.id.right=true)(hn:q.idx x.id=none)(hl:q.bA x=none)(uj:q.idx x.l=none):
  dY (q.put x) (ns++[⟨x,none,false,[],[]⟩])∧(q.put x).F.roots=aB (q.kR q.F.roots x) q.us.length q.F.roots:=by
 obtain ⟨pa,sd,kk,up,g,_,_,_,g2⟩:=k.grown x;obtain ⟨rfl,Et,_,g4⟩:=g2 hl;obtain ⟨rfl,_⟩:=g4 uj;rw [uj]at Et;subst Et;have hlen:=h.len;refine ⟨h.put k hr hn g ?_ ?_ fun i e he=>?_,by rw [g.roots,yS rfl]⟩
 ·rw [uJ,h.us];rfl
 ·rw [vM J9,hlen,tG];rfl
 ·have iA:=(yV.1 he).1;exact ⟨e,by rw [vJ iA,he],rfl,rfl,YA,YA⟩
end
end Go.Proofs.YtgpgladbdoimdaaGreatDoor.dY
namespace Go.Proofs.YtgpgladbdoimdaaGreatDoor
open Go.Ids Go.SeqP
def Rf(ns:List RN):Fo→Prop
 |.nil=>True
 |.cons i l r n=>(∃d,ns[i]?=some d∧d.A=l.roots∧d.B=r.roots)∧Rf ns l∧Rf ns r∧Rf ns n
theorem Rf.of{ns:List RN}:∀{f:Fo} {pa:Option Nat} {sd:Bool},(∀i p s a b,Fo.At f pa sd i p s a b→∃d,ns[i]?=some d∧d.A=a.roots∧d.B=b.roots)→Rf ns f
 |.nil,_,_,_=>trivial
 |.cons i l r _n,pa,sd,h=>⟨h i pa sd l r (.inl ⟨rfl,rfl,rfl,rfl,rfl⟩),Rf.of fun i p s a b hA=>h i p s a b (.inr (.inl hA)),Rf.of fun i p s a b hA=>h i p s a b (.inr (.inr (.inl hA))),Rf.of fun i p s a b hA=>h i p s a b (.inr (.inr (.inr hA)))⟩
theorem dY.rf{q:Us}{ns:List RN}(h:dY q ns):Rf ns q.F:=Rf.of fun i p s a b hA=>by
 obtain ⟨d,h1,_,_,h2,h3⟩:=h.at_ i p s a b hA;exact ⟨d,h1,h2,h3⟩
theorem dY.nil:dY ⟨[],.nil⟩ []:=⟨rfl,fun _ _ _ _ _ h=>h.elim⟩
def Br(q:Us)(x:Un):Int:=if x.r=⟨0,0⟩then q.us.length+1 else q.find x.r
theorem Us.Ok.pZ{q:Us}(h:q.Ok)(id:aL):q.find id<q.us.length∨q.us.length=0∧q.find id=-1:=by
 unfold Us.find;cases hi:q.idx id with
 |none=>simp only;omega
 |some i=>
  have:=h.lk (Us.ba hi).1;simp only;omega
theorem Us.Ok.En{q:Us}(h:q.Ok)(x y:Un):q.ahead x y=if Br q x=Br q y then x.id.lt y.id else decide (Br q x>Br q y):=by
 have h1:=h.pZ x.r;have h2:=h.pZ y.r;unfold Us.ahead Us.ej Br
 by_cases hx:x.r=⟨0,0⟩<;>by_cases hy:y.r=⟨0,0⟩<;>simp only [hx,hy,yT,wE]
 ·rw [zX J9,zX J9,uZ];simp only [vY];omega
 ·rw [zX J9,zX J9,uZ];simp only [vY];omega
end Go.Proofs.YtgpgladbdoimdaaGreatDoor
namespace Go.Ev
open Go.RowKit
def Vw(L:List az)(sz:Nat)(v:Value)(xs:List Value):Prop:=bW sz v xs∈L∨∃S t n,aF S t sz v n xs∈L
section
variable{P:Program} {T:Ty} {ops:Array Oper} {Q:Exit→Act→World→Prop} {l l' rest:List Oper} {n:Nat} {e e':Env} {D:Fr} {ds:List Deferred} {m0 m:World} {M0 X:List Nat} {H H' F Pre L:List az}
 {d:Option Tmp} {x y:Operand} {t ty te:TypeId} {pos:String} {aft:Array Edge} {g:Option (Nat×Bool)} {u v:Value} {r rt:Row} {J:World→Prop} {fin:List Nat} {fuel fuel':Nat} {listed listed':Array Bool} {ad p:Addr} {j k off sz nn c cap:Nat} {xs vs:List Value} {S:List Nat} {α:Type}
theorem Vw.ro(h:bW sz v xs∈L):Vw L sz v xs:=.inl h
theorem Vw.own{n:Nat}(h:aF S t sz v n xs∈L):Vw L sz v xs:=.inr ⟨S,t,n,h⟩
theorem Vw.sub(h:Vw L sz v xs)(hs:∀A∈L,A∈H):Vw H sz v xs:=by
 rcases h with h|⟨S,t,n,h⟩
 ·exact .inl (hs _ h)
 ·exact .inr ⟨S,t,n,hs _ h⟩
theorem Vw.cons{A:az}(h:Vw L sz v xs):Vw (A::L) sz v xs:=h.sub fun _ hm=>zO _ hm
theorem Vw.sl(h:Vw L sz v xs)(hS:Tr m0 M0 X m H)(hL:an H L):Sl m [] sz v xs:=by
 rcases h with h|⟨S,t,n,h⟩
 ·exact hS.bE (hL.mem h)
 ·exact hS.aW (hL.mem h)
theorem Vw.at_(h:Vw L sz v xs)(hS:Tr m0 M0 X m L):Sl m [] sz v xs:=h.sl hS (an.self _)
theorem Vw.js(h:Vw L sz v xs):∀m',JS m0 M0 X L m'→Sl m' [] sz v xs:=fun _ ⟨_,hS,hL⟩=>h.sl hS hL
theorem RL.kh(hT:T.Ok P)(enc:α→List Value)(hl:∀a,(enc a).length=sz){L:List α}{a:α}(hR:Sl m [] sz (.slice (some ad) nn c) (L.flatMap enc))(hj:L[j]?=some a)(off:Nat)(ho:Nat.blt off sz=true)(hg:gd ops e ⟨d,.load t x,ty,pos,aft,g⟩=some true)(hx:e.ev x=some (.pointer (some p)))(Et:p=ad.add (j*sz+off))(ht:T.plain t=true)
  (hv:(enc a)[off]?=some v)(hp:aQ n d v e=some e')(h:RL P ops Q rest n e' D m):RL P ops Q (⟨d,.load t x,ty,pos,aft,g⟩::rest) n e D m:=by
 subst Et;have ho:off<sz:=by simpa using ho
 exact RL.load hT hg hx ht (hR.kA (by rw [jx enc hl L j a hj off ho,hv]) J9) hp h
theorem RL.fg(hT:T.Ok P)(enc:α→List Value)(hl:∀a,(enc a).length=sz){L:List α}{a:α}(hR:Sl m [] sz (.slice (some ad) nn c) (L.flatMap enc))(hj:L[j]?=some a)(off:Nat)(vs:List Value)(ho:Nat.ble (off+vs.length) sz=true)(cz:Nat.blt 0 sz=true)(hg:gd ops e ⟨d,.load t x,ty,pos,aft,g⟩=some true)(hx:e.ev x=some (.pointer (some p)))(Et:p=ad.add (j*sz+off))(ht:T.jB t=some vs.length)
  (hv:((enc a).drop off).take vs.length=vs)(hp:aQ n d (.agg vs.toArray) e=some e')(h:RL P ops Q rest n e' D m):RL P ops Q (⟨d,.load t x,ty,pos,aft,g⟩::rest) n e D m:=by
 subst Et;have ho:=yU ho;have cz:0<sz:=by simpa using cz
 refine RL.aJ hT vs hg hx ht (fun i w hw=>?_) hp h;have hi:=(yV.1 hw).1;rw [add_add,Nat.add_assoc];refine hR.kA ?_ cz;rw [jx enc hl L j a hj (off+i) J9,←hw];have h9:=xZ (fun l=>l[i]?) hv;simp only [xV,vA,yS hi]at h9;exact h9
theorem RH.kh(hT:T.Ok P)(hQ:ai Q){i:Nat}(enc:α→List Value)(hl:∀a,(enc a).length=sz){L:List α}{a:α}(hR:∀m',J m'→Sl m' [] sz (.slice (some ad) nn c) (L.flatMap enc))(hj:L[j]?=some a)(off:Nat)(ho:Nat.blt off sz=true)(_:gP od ops fin listed.toList (hY ops listed.toList)=some i)(hB:(be ops&&bq ops fin listed [i])=true)(hi:ops[i]?=some ⟨d,.load t x,ty,pos,aft,g⟩)(hg:gd ops e ⟨d,.load t x,ty,pos,aft,g⟩=some true)(hx:e.ev x=some (.pointer (some p)))(Et:p=ad.add (j*sz+off))(ht:T.plain t=true)
  (hv:(enc a)[off]?=some v)(hp:aQ n d v e=some e')(h:RH P ops Q J fin fuel (listed.setIfInBounds i true) n e' D m):RH P ops Q J fin (fuel+1) listed n e D m:=by
 subst Et;have ho:off<sz:=by simpa using ho
 exact RH.load hT hQ i (fun m' bm=>(hR m' bm).kA (by rw [jx enc hl L j a hj off ho,hv]) J9) hi hB hg hx ht hp h
theorem RH.fg(hT:T.Ok P)(hQ:ai Q){i:Nat}(enc:α→List Value)(hl:∀a,(enc a).length=sz){L:List α}{a:α}(hR:∀m',J m'→Sl m' [] sz (.slice (some ad) nn c) (L.flatMap enc))(hj:L[j]?=some a)(off:Nat)(vs:List Value)(ho:Nat.ble (off+vs.length) sz=true)(cz:Nat.blt 0 sz=true)(_:gP od ops fin listed.toList (hY ops listed.toList)=some i)(hB:(be ops&&bq ops fin listed [i])=true)(hi:ops[i]?=some ⟨d,.load t x,ty,pos,aft,g⟩)(hg:gd ops e ⟨d,.load t x,ty,pos,aft,g⟩=some true)(hx:e.ev x=some (.pointer (some p)))(Et:p=ad.add (j*sz+off))(ht:T.jB t=some vs.length)
  (hv:((enc a).drop off).take vs.length=vs)(hp:aQ n d (.agg vs.toArray) e=some e')(h:RH P ops Q J fin fuel (listed.setIfInBounds i true) n e' D m):RH P ops Q J fin (fuel+1) listed n e D m:=by
 subst Et;have ho:=yU ho;have cz:0<sz:=by simpa using cz
 refine RH.aJ hT hQ i vs (fun m' bm q w hw=>?_) hi hB hg hx ht hp h;have hq:=(yV.1 hw).1;rw [add_add,Nat.add_assoc];refine (hR m' bm).kA ?_ cz;rw [jx enc hl L j a hj (off+q) J9,←hw];have h9:=xZ (fun l=>l[q]?) hv;simp only [xV,vA,yS hq]at h9;exact h9
theorem Sl.gY(enc:α→List Value)(hl:∀a,(enc a).length=sz){L:List α}(h:Sl m [] sz v (L.flatMap enc))(cz:0<sz):∃A c,v=.slice A L.length c∧L.length≤c∧c≤maxLen∧(∀(j:Nat) (a:α),L[j]?=some a→∃ad,A=some ad):=by
 have hn:(L.flatMap enc).length=L.length*sz:=by
  clear h
  induction L with
  |nil=>simp
  |cons a L ih=>rw [vH,zY,ih,hl,yF,xQ];omega
 obtain ⟨A,c,rfl,h1,h2⟩:=h.shape hn cz;refine ⟨A,c,rfl,h1,h2,fun j a hj=>?_⟩;obtain ⟨ad,h3,_⟩:=h.addr (by have:=(yV.1 hj).1;omega);exact ⟨ad,h3⟩
theorem rN{A:Option Addr}{news:List Value}{tx:TypeId}{w:World}(hT:T.Ok P)(dD:T.row t=some rt)(hk:rt.k=.kb te)(hr:T.row te=some r)(tN:r.zero.cells.size=r.size)(_hsz:0<r.size)(mJ:P.underlying tx=some (.slice te)∨P.underlying tx=some .string)
  (hold:Sl m [] r.size (.slice A n n) xs)(BA:0<k)(mA:Src P r.size m u k news)(hl:news.length=k*r.size)(gj:n+k≤maxLen)(dn:(n+k)*r.bytes≤140737488355328)(hs:bS m w)(ty:TypeId):
  ∃v' w' S',(Builtin.append_ #[t,tx] ty #[.slice A n n,u]).run P w=.ok v' w'∧Own w' S' te r.size v' (n+k) (xs++news)∧Ext m [] (low m w')∧bp m [] S':=by
 have hu:=(hT.row dD).k;rw [hk]at hu;obtain ⟨i,hi,yc,A7,GD⟩:=(hT.row hr).parts;have qa:=hold.len.1;have hlen:(xs++news).length=(n+k)*r.size:=by rw [zY,qa,hl,Nat.add_mul]
 have M6:¬(281474976710656<Builtin.nextslicecap (n+k) n*i.bytes):=by
  rw [GD];have:=growslice_fits (show n<n+k by omega) dn;omega
 have fW:=grownCap_ge w (n+k) n te;have kl:=grownCap_le_maxLen w (n+k) n te gj;have hb:bw (w.drew.alloc (.cells (xs++news++(Builtin.zeroCells r.zero.cells (grownCap w (n+k) n te-(n+k))).toList).toArray te)) w.heap.size te (xs++news++(Builtin.zeroCells r.zero.cells (grownCap w (n+k) n te-(n+k))).toList):=heap_alloc_new w.drew _;refine ⟨.slice (some ⟨w.heap.size,0,none⟩) (n+k) (grownCap w (n+k) n te),w.drew.alloc (.cells (xs++news++(Builtin.zeroCells r.zero.cells (grownCap w (n+k) n te-(n+k))).toList).toArray te),[w.heap.size],?_,?_,?_,?_⟩
 ·have IT:(Builtin.firstCells r.size n (.slice A n n)).run P w.drew=.ok xs.toArray w.drew:=by
   rcases xR n with h0|h0
   ·subst h0;have:xs=[]:=wO (by simpa using qa);subst this;cases A<;>simp [Builtin.firstCells,loadCells,loadCellsFrom]
   ·obtain ⟨ad,rfl,_,hc⟩:=hold.addr h0;exact run_firstCells_some w.drew r.size n ad n n xs qa (fun j u hu=>((hs.drew).cell _).trans (hc j u hu))
  have N5:=mA.2 w.drew (hs.drew);have xw:¬(n+k≤n):=by omega
  have OV:¬(9223372036854775807<((n:Int)+(k:Int))):=by simp only [maxLen]at gj;omega
  rcases mJ with mJ|mJ<;>simp [Builtin.append_,run_underlying hu,run_underlying mJ,sizeOf,typeInfo,zeroValue,hi,yc,A7,mA.1,xw,M6,OV,IT,N5,newRow,Question.forced,grownCap]<;>(first|omega|(constructor;omega)|skip)<;>(try(congr 2;apply xO;simp))
 ·exact ⟨hlen,.inr ⟨_,_,_,rfl,hb,fW,kl,by
   simp only [zY,qa,hl,fE,tN,←Nat.add_mul];congr 1;omega,by rw [←hlen];exact xY,rfl⟩⟩
 ·refine ⟨hs.os,hs.tape,hs.output,by rw [cJ];simp [hs.size],fun q hq _=>?_,iF.low (yQ hs.drawn)⟩;rw [cJ,Below.heap_alloc w.drew _ q Jc];show w.heap[q]?=_;rw [hs.heap]
 ·intro q hq;have:q=w.heap.size:=by simpa using hq
  subst this;exact .inr (by rw [hs.size];exact yP _)
theorem RL.lg{A:Option Addr}{tx:TypeId}{sx:Value}(hT:T.Ok P)(hS:Tr m0 M0 X m H)(news:List Value)(hR:Sl m [] r.size (.slice A nn nn) xs)(BA:Nat.blt 0 k=true)
  (he:T.elem t=some (te,r))(mJ:T.ua tx te=true)
  (hg:gd ops e ⟨d,.call ⟨.builtin .append,#[x,y],#[t,tx]⟩,ty,pos,aft,g⟩=some true)(hx:e.ev x=some (.slice A nn nn))(hy:e.ev y=some sx)(mA:Src P r.size m sx k news)(hl:news.length=k*r.size)(gj:nn+k≤maxLen)(dn:(nn+k)*r.bytes≤140737488355328)
  (h:∀v' m' S',Tr m0 M0 X m' (aF S' te r.size v' (nn+k) (xs++news)::H)→∃e',aQ n d v' e=some e'∧RL P ops Q rest n e' D m'):
  RL P ops Q (⟨d,.call ⟨.builtin .append,#[x,y],#[t,tx]⟩,ty,pos,aft,g⟩::rest) n e D m:=by
 obtain ⟨rt,dD,hk,hr,tN,cz,_⟩:=Ty.dK he;refine RL.uy (R:=fun v' m'=>∃S',Own m' S' te r.size v' (nn+k) (xs++news)∧Ext m [] m'∧bp m [] S') hg (fun a w hf hs=>?_) (fun v' m' ⟨S',h2,h3,h4⟩=>h v' m' S' (hS.made h2 ⟨h3,h4⟩));obtain ⟨v',w',S',h2,h3,h4,h5⟩:=rN hT dD hk hr tN cz (Ty.sf hT mJ) hR (by simpa using BA) mA hl gj dn hs ty;refine ⟨v',w',low m w',?_,bS.low m w',S',h3,h4,h5⟩;simp [execOp,resolve,invoke,builtin,hf.ev hx,hf.ev hy,h2]
theorem RH.nP{A:Option Addr}{z:Operand}{s lo q len cap':Nat}{kk kk':IntKind}{jj jj':Int}(hT:T.Ok P)(hQ:ai Q)(i:Nat)(hi:ops[i]?=some ⟨d,.slice t x none (some y) (some z),ty,pos,aft,g⟩)(hB:(be ops&&bq ops fin listed [i])=true)(hs:T.fJ t=some s)
  (hg:gd ops e ⟨d,.slice t x none (some y) (some z),ty,pos,aft,g⟩=some true)(hx:e.ev x=some (.slice A len cap'))(hy:e.ev y=some (.int kk jj))(hz:e.ev z=some (.int kk' jj'))(hj:jj=(lo:Int))(x8:jj'=(q:Int))(hl:lo≤q)(hq:q≤cap')
  (hp:aQ n d (.slice A lo q) e=some e')(h:RH P ops Q J fin fuel (listed.setIfInBounds i true) n e' D m):RH P ops Q J fin (fuel+1) listed n e D m:=by
 simp only [bq,wR,wY]at hB;subst hj;subst x8;refine RH.take hi hB.1 hB.2.1 hB.2.2 hQ (fun a hf=>.inl ⟨cZ hf hg,fun w _=>?_⟩) hp h;obtain ⟨te,hu,cz⟩:=eF hT hs w;have hA:(if q=0 then A else A.map (·.add 0))=A:=by split<;>cases A<;>simp [Addr.add]
 simp [execOp,hf.ev hx,hf.ev hy,hf.ev hz,Instr.sliceAt,Instr.slice,Instr.sliceBounds,Instr.sliceBound,asIntOf,run_underlying hu,cz,hl,hq,hA]
theorem RL.rq{b i:Nat}{tb:TypeId}{H':List az}(hT:T.Ok P)(hS:Tr m0 M0 X m H)(hr:kq (aF S tb sz (.slice (some ⟨b,0,none⟩) nn cap) nn xs) (aF S tb sz (.slice (some ⟨b,0,none⟩) nn cap) nn (xs.set i v)) H H')(hi:i<nn*sz)
  (hg:gd ops e ⟨d,.store t x y,ty,pos,aft,g⟩=some true)(hx:e.ev x=some (.pointer (some ⟨b,i,none⟩)))(hy:e.ev y=some v)(ht:T.plain t=true)(h1:v.oneCell'=true)(hp:aQ n d undef e=some e')
  (h:∀m',Tr m0 M0 X m' H'→RL P ops Q rest n e' D m'):RL P ops Q (⟨d,.store t x y,ty,pos,aft,g⟩::rest) n e D m:=by
 have hO:Own m S tb sz (.slice (some ⟨b,0,none⟩) nn cap) nn xs:=by
  obtain ⟨F,h1,_⟩:=hr.perms;exact hS.mem (A:=aF S tb sz (.slice (some ⟨b,0,none⟩) nn cap) nn xs) (h1.mem_iff.2 (zS ..))
 obtain ⟨g',cap',cur,he,hB,rfl,My,hW⟩:=hO.Ci hi;cases he;exact RL.store hT hB My hg hx hy ht h1 hp fun m' hC=>h m' (hS.MY hr (hW m' v hC) hC.ext (bp.refl _ _))
theorem nB(enc:α→List Value)(hl:∀a,(enc a).length=sz):∀(L:List α) (j:Nat) (a a':α) (off:Nat) (w:Value),L[j]?=some a→off<sz→enc a'=(enc a).set off w→(L.flatMap enc).set (j*sz+off) w=(L.set j a').flatMap enc
 |[],j,a,a',off,w,h,_,_=>by simp at h
 |b::L,0,a,a',off,w,h,ho,he=>by
  simp only [wZ,yJ]at h;subst h;rw [vH,List.set_cons_zero,vH,Nat.zero_mul,zU,List.set_append_left _ _ (by rw [hl];exact ho),he]
 |b::L,j+1,a,a',off,w,h,ho,he=>by
  have ih:=nB enc hl L j a a' off w J5 ho he;rw [vH,List.set_cons_succ,vH,tA _ _ (by rw [hl,xQ];omega),hl,←ih]
  congr 2
  rw [xQ];omega
theorem Tr.Xn{S:List Nat}{t:TypeId}{sz n:Nat}{v:Value}{xs:List Value}{H H':List az}(h:Tr m0 M0 X m H)(hr:kq (aF S t sz v n xs) (bW sz v xs) H H')(cz:0<sz):Tr m0 M0 X m H':=by
 obtain ⟨F,h1,h2⟩:=hr.perms;exact ((h.perm h1).freeze cz).perm h2
def ey(sz:Nat)(ps:List (Value×List Value)):az where
 own:=[]
 P:=fun m M=>0<sz∧∀p∈ps,Sl m M sz p.1 p.2
 lt:=fun _ k hk=>by cases hk
 dC:=fun h hE _ hN hM=>⟨h.1,fun p hp=>(Sl.ext ((h.2 p hp).less (M':=_) (fun k hk=>.inl hk) h.1) (hE.mono (M':=_) hN) hM h.1)⟩
theorem Tr.R5{ps:List (Value×List Value)}(hS:Tr m0 M0 X m H)(hm:ey sz ps∈H){q:Value×List Value}(hq:q∈ps):Sl m (au H++X) sz q.1 q.2:=(hS.mem hm).2 q hq
theorem Tr.mf{ps:List (Value×List Value)}(hS:Tr m0 M0 X m H)(hm:ey sz ps∈H){q:Value×List Value}(hq:q∈ps):Tr m0 M0 X m (bW sz q.1 q.2::H):=by
 have h:_∧_:=hS.mem hm;exact hS.more (B:=bW sz q.1 q.2) rfl ⟨h.2 q hq,h.1⟩
theorem Tr.s8{ps qs:List (Value×List Value)}(hS:Tr m0 M0 X m H)(cz:0<sz)(hq:∀q∈qs,bW sz q.1 q.2∈H∨(q∈ps∧ey sz ps∈H)):Tr m0 M0 X m (ey sz qs::H):=
 hS.more (B:=ey sz qs) rfl ⟨cz,fun q h=>by
  rcases hq q h with h1|⟨h1,h2⟩
  ·exact (hS.mem h1).1
  ·exact (hS.mem h2).2 q h1⟩
end
section
variable{P:Program} {T:Ty} {ops:Array Oper} {Q:Exit→Act→World→Prop} {l l' rest:List Oper} {n:Nat} {e e':Env} {D:Fr} {ds:List Deferred} {m0 m:World} {M0 X:List Nat} {H H' F Pre L:List az}
 {d:Option Tmp} {x y:Operand} {t ty yt:TypeId} {pos:String} {aft:Array Edge} {g:Option (Nat×Bool)} {u v a b:Value} {J:World→Prop} {fin:List Nat} {fuel:Nat} {listed:Array Bool} {op:BinOp}
 {f:FuncId} {fo:Operand} {xs:Array Operand} {ts:Array TypeId} {vs al fi ca:List Value} {Post:Value→List az→Prop}
theorem RL.cU(hc:ee P f al Pre u)(h:∀m',Tr m0 M0 X m' H→RL P ops Q rest n e' D m')(hS:Tr m0 M0 X m H:=by exact hS)(hg:gd ops e ⟨d,.call ⟨.value fo,xs,ts⟩,ty,pos,aft,g⟩=some true:=by exact rfl)
  (nk:e.ev fo=some (.func (.func f) fi.toArray ca.toArray):=by exact rfl)(fI:e.kj xs.toList=some vs:=by exact rfl)(has:fi++vs++ca=al:=by exact rfl)
  (hs:bk Pre H H:=by(repeat(first|with_reducible exact bk.nil|apply bk.ro JQ YB|apply bk.own JM)))
  (hp:aQ n d u e=some e':=by exact rfl):RL P ops Q (⟨d,.call ⟨.value fo,xs,ts⟩,ty,pos,aft,g⟩::rest) n e D m:=RL.bU hS hc hg nk fI has hs hp h
theorem RL.cM(hc:bu P f al Pre Post)(h:∀v m' H',Post v H'→Tr m0 M0 X m' (H'++F)→∃e',aQ n d v e=some e'∧RL P ops Q rest n e' D m')(hS:Tr m0 M0 X m H:=by exact hS)(hg:gd ops e ⟨d,.call ⟨.value fo,xs,ts⟩,ty,pos,aft,g⟩=some true:=by exact rfl)
  (nk:e.ev fo=some (.func (.func f) fi.toArray ca.toArray):=by exact rfl)(fI:e.kj xs.toList=some vs:=by exact rfl)(has:fi++vs++ca=al:=by exact rfl)
  (hs:bk Pre H F:=by(repeat(first|with_reducible exact bk.nil|apply bk.ro JQ YB|apply bk.own JM))):
  RL P ops Q (⟨d,.call ⟨.value fo,xs,ts⟩,ty,pos,aft,g⟩::rest) n e D m:=RL.dr hS hc hg nk fI has hs h
theorem RH.cU{i:Nat}(hc:ee P f al Pre u)(h:∀m',Tr m0 M0 X m' H→RH P ops Q (JS m0 M0 X L) fin fuel (listed.setIfInBounds i true) n e' D m')(hS:Tr m0 M0 X m H:=by exact hS)(h0:hY ops listed.toList=[i]:=by exact rfl)(hr:Region.ready .any ops listed=[i]:=by kernel_rfl)(hi:ops[i]?=some ⟨d,.call ⟨.value fo,xs,ts⟩,ty,pos,aft,g⟩:=by exact rfl)
  (hg:gd ops e ⟨d,.call ⟨.value fo,xs,ts⟩,ty,pos,aft,g⟩=some true:=by exact rfl)
  (nk:e.ev fo=some (.func (.func f) fi.toArray ca.toArray):=by exact rfl)(fI:e.kj xs.toList=some vs:=by exact rfl)(has:fi++vs++ca=al:=by exact rfl)
  (hs:bk Pre H H:=by(repeat(first|with_reducible exact bk.nil|apply bk.ro JQ YB|apply bk.own JM)))
  (hL:an H L:=by(first|exact an.self _|exact an.ay fun _ h=>Jd|(repeat(first|exact an.nil|refine an.cons JK ?_);done)))
  (hp:aQ n d u e=some e':=by exact rfl):RH P ops Q (JS m0 M0 X L) fin (fuel+1) listed n e D m:=RH.bU hS hc h0 hr hi hg nk fI has hs hL hp h
theorem RH.cM{i:Nat}(hc:bu P f al Pre Post)(h:∀v m' H',Post v H'→Tr m0 M0 X m' (H'++F)→an (H'++F) L∧∃e',aQ n d v e=some e'∧RH P ops Q (JS m0 M0 X L) fin fuel (listed.setIfInBounds i true) n e' D m')(hS:Tr m0 M0 X m H:=by exact hS)(h0:hY ops listed.toList=[i]:=by exact rfl)(hr:Region.ready .any ops listed=[i]:=by kernel_rfl)(hi:ops[i]?=some ⟨d,.call ⟨.value fo,xs,ts⟩,ty,pos,aft,g⟩:=by exact rfl)
  (hg:gd ops e ⟨d,.call ⟨.value fo,xs,ts⟩,ty,pos,aft,g⟩=some true:=by exact rfl)
  (nk:e.ev fo=some (.func (.func f) fi.toArray ca.toArray):=by exact rfl)(fI:e.kj xs.toList=some vs:=by exact rfl)(has:fi++vs++ca=al:=by exact rfl)
  (hs:bk Pre H F:=by(repeat(first|with_reducible exact bk.nil|apply bk.ro JQ YB|apply bk.own JM))):
  RH P ops Q (JS m0 M0 X L) fin (fuel+1) listed n e D m:=RH.iN hS hc h0 hr hi hg nk fI has hs h
abbrev r7(P:Program)(f:FuncId)(args:List Value)(L:List az)(u:Value):Prop:=bu P f args L fun v H=>v=u∧H=L
theorem RL.cL(hc:r7 P f al H u)(h:∀m',Tr m0 M0 X m' H→RL P ops Q rest n e' D m')(hS:Tr m0 M0 X m H:=by exact hS)(hg:gd ops e ⟨d,.call ⟨.value fo,xs,ts⟩,ty,pos,aft,g⟩=some true:=by exact rfl)
  (nk:e.ev fo=some (.func (.func f) fi.toArray ca.toArray):=by exact rfl)(fI:e.kj xs.toList=some vs:=by exact rfl)(has:fi++vs++ca=al:=by exact rfl)
  (hp:aQ n d u e=some e':=by exact rfl):RL P ops Q (⟨d,.call ⟨.value fo,xs,ts⟩,ty,pos,aft,g⟩::rest) n e D m:=
 RL.dr hS hc hg nk fI has (bk.self H) fun v m' H' h1 h2=>by
  obtain ⟨rfl,rfl⟩:=h1;rw [vI]at h2;exact ⟨e',hp,h m' h2⟩
theorem RH.cL{i:Nat}(hc:r7 P f al H u)(h:∀m',Tr m0 M0 X m' H→RH P ops Q (JS m0 M0 X L) fin fuel (listed.setIfInBounds i true) n e' D m')(hS:Tr m0 M0 X m H:=by exact hS)(h0:hY ops listed.toList=[i]:=by exact rfl)(hr:Region.ready .any ops listed=[i]:=by kernel_rfl)(hi:ops[i]?=some ⟨d,.call ⟨.value fo,xs,ts⟩,ty,pos,aft,g⟩:=by exact rfl)
  (hg:gd ops e ⟨d,.call ⟨.value fo,xs,ts⟩,ty,pos,aft,g⟩=some true:=by exact rfl)
  (nk:e.ev fo=some (.func (.func f) fi.toArray ca.toArray):=by exact rfl)(fI:e.kj xs.toList=some vs:=by exact rfl)(has:fi++vs++ca=al:=by exact rfl)
  (hL:an H L:=by(first|exact an.self _|exact an.ay fun _ h=>Jd|(repeat(first|exact an.nil|refine an.cons JK ?_);done)))
  (hp:aQ n d u e=some e':=by exact rfl):RH P ops Q (JS m0 M0 X L) fin (fuel+1) listed n e D m:=
 RH.iN hS hc h0 hr hi hg nk fI has (bk.self H) fun v m' H' h1 h2=>by
  obtain ⟨rfl,rfl⟩:=h1;rw [vI]at h2 ⊢;exact ⟨hL,e',hp,h m' h2⟩
def VV:Op→Bool
 |.store _ _ _=>true
 |.mapUpdate _ _ _ _=>true
 |.call ⟨.builtin .delete,_,_⟩=>true
 |_=>false
def RG(l:List Oper):List Nat:=(List.range l.length).filter fun i=>match l[i]?with
 |some o=>VV o.op
 |none=>false
theorem WP.dQ{id:Nat}{l:List Oper}(hS:Tr m0 M0 X m H)(_hf:RG l=fin)(hm:P.follows .mixedOrders=true)(h:RH P l.toArray (Ev.calm Q) (JS m0 M0 X H) fin l.length (Array.replicate l.length false) n e D m):WP P (.region id l.toArray true) Q n e D m:=WP.calm (WP.Mb fin hS hm h)
def SO:Op→Bool
 |.binOp _ _ _ _ _=>true
 |_=>false
theorem RH.bin{i:Nat}(hr:∀w,(Go.binOp op t a b).run P w=.ok v w)(hq:∀w,(eqGuard op t x y a b).run P w=.ok () w)(h:RH P ops (Ev.calm Q) J fin fuel (listed.setIfInBounds i true) n e' D m)(_h0:gP SO ops fin listed.toList (hY ops listed.toList)=some i:=by exact rfl)(hi:ops[i]?=some ⟨d,.binOp op t x y yt,ty,pos,aft,g⟩:=by exact rfl)(hB:(be ops&&bq ops fin listed [i])=true:=by kernel_rfl)
  (hg:gd ops e ⟨d,.binOp op t x y yt,ty,pos,aft,g⟩=some true:=by exact rfl)(hx:e.ev x=some a:=by exact rfl)(hy:e.ev y=some b:=by exact rfl)(hp:aQ n d v e=some e':=by exact rfl):RH P ops (Ev.calm Q) J fin (fuel+1) listed n e D m:=RH.binOp hr hq ai.calm i hi hB hg hx hy hp h
end
theorem aZ{p q:Prop}(h:q)(t:Hid q→p:=by
 intro hZ
 repeat(first
  |refine RL.nj eS rfl rfl ?_
  |refine RL.Dj 1 eS rfl rfl ?_
  |refine RL.iU aa hS rfl rfl rfl JI YB YB ?_
  |refine RL.Tg aa hS rfl rfl rfl JI YB YB YB ?_
  |refine RH.oc 60 eS ai.calm rfl J7 rfl ?_
  |refine RH.oc 1 eS ai.calm rfl J7 rfl ?_
  |refine RH.ld aa ai.calm rfl J7 rfl rfl rfl rfl JI YB YB ?_
  |refine RH.TD aa ai.calm rfl J7 rfl rfl rfl rfl JI YB YB YB ?_
  |refine RL.indexAddr aa rfl rfl rfl rfl rfl rfl rfl J9 rfl ?_
  |refine RH.ix aa ai.calm rfl J7 rfl rfl rfl rfl rfl rfl rfl rfl J9 rfl ?_)
 try(first
  |refine RL.aU aa rfl hS rfl rfl ?_
  |refine RL.bn hS rfl rfl rfl ?_
  |refine RL.aO aa hS rfl rfl rfl rfl YB YB JN YB ?_
  |refine RL.er aa hS rfl rfl rfl rfl rfl YB YB JN YB ?_
  |(refine RH.one rfl J7 rfl ?_;first
   |refine RL.aU aa rfl hS rfl rfl ?_
   |refine RL.bn hS rfl rfl rfl ?_
   |refine RL.aO aa hS rfl rfl rfl rfl YB YB JN YB ?_
   |refine RL.er aa hS rfl rfl rfl rfl rfl YB YB JN YB ?_))
 exact hZ.out):p:=t ⟨h⟩
theorem ah{p q:Prop}(h:q)(t:Hid q→p:=by
 intro hZ
 repeat(first
  |refine RL.nj eS rfl rfl ?_
  |refine RL.Dj 1 eS rfl rfl ?_
  |refine RL.iU aa hS rfl rfl rfl JI YB YB ?_
  |refine RL.Tg aa hS rfl rfl rfl JI YB YB YB ?_
  |refine RH.oc 60 eS ai.calm rfl J7 rfl ?_
  |refine RH.oc 1 eS ai.calm rfl J7 rfl ?_
  |refine RH.ld aa ai.calm rfl J7 rfl rfl rfl rfl JI YB YB ?_
  |refine RH.TD aa ai.calm rfl J7 rfl rfl rfl rfl JI YB YB YB ?_
  |refine RL.indexAddr aa rfl rfl rfl rfl rfl rfl rfl J9 rfl ?_
  |refine RH.ix aa ai.calm rfl J7 rfl rfl rfl rfl rfl rfl rfl rfl J9 rfl ?_
  |refine RL.N1 (RF.last YB (QN.calm ?_))
  |refine RL.N1 (RH.aD hS (by(first|exact an.self _|exact an.ay fun _ h=>Jd|(repeat(first|exact an.nil|refine an.cons JK ?_);done))) ?_)
  |(refine RL.N1 (YJ ?_))
  |(refine RH.stop YB (QN.calm ?_);refine YJ ?_)
  |with_reducible refine WP.S1 ?_|with_reducible refine WP.B1 ?_|with_reducible refine WP.R1 ?_
  |(refine WP.skip (YJ ?_))|refine WP.da rfl ?_|refine WP.bg rfl ?_
  |(refine WP.ret (YI ?_))
  |(refine WP.exit (YD ?_))
  |with_reducible refine QN.B1 ?_|with_reducible refine QN.N1 ?_)
 try(first
  |refine RL.aU aa rfl hS rfl rfl ?_
  |refine RL.bn hS rfl rfl rfl ?_
  |refine RL.aO aa hS rfl rfl rfl rfl YB YB JN YB ?_
  |refine RL.er aa hS rfl rfl rfl rfl rfl YB YB JN YB ?_
  |(refine RH.one rfl J7 rfl ?_;first
   |refine RL.aU aa rfl hS rfl rfl ?_
   |refine RL.bn hS rfl rfl rfl ?_
   |refine RL.aO aa hS rfl rfl rfl rfl YB YB JN YB ?_
   |refine RL.er aa hS rfl rfl rfl rfl rfl YB YB JN YB ?_))
 exact hZ.out):p:=t ⟨h⟩
end Go.Ev
