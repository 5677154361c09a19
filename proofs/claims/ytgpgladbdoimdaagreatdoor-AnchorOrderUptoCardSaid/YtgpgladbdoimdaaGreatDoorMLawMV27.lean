/- Texts that belong together. -/
import Derived.Test.YtgpgladbdoimdaaGreatDoorMLawMV24
namespace Go.Proofs.YtgpgladbdoimdaaGreatDoor
open Go.RowKit Go.Ev Go.Ids Go.SeqP
theorem fm{p:Nat}:∀{f:Fo} {up:List Nat},up.Nodup→(∀k∈up,k∉f.flat)→f.flat.Nodup→(Fo.path up f p).Nodup
 |.nil,_,_,_,_=>by simp [Fo.path]
 |.cons i l r n,up,h1,h2,nd=>by
  obtain ⟨n1,n2,n3,i1,i2,i3,d1,d2⟩:=Fo.fK nd;have hi:i∉up:=fun hh=>h2 i hh (by simp [Fo.flat])
  unfold Fo.path
  split
  ·rename_i hh;subst hh;exact yO.2 ⟨hi,h1⟩
  ·split
   ·refine fm (yO.2 ⟨hi,h1⟩) (fun k hk hl=>?_) n1;rcases yH.1 hk with rfl|hk
    ·exact i1 hl
    ·exact h2 k hk (by simp [Fo.flat,hl])
   ·split
    ·refine fm (yO.2 ⟨hi,h1⟩) (fun k hk hl=>?_) n2;rcases yH.1 hk with rfl|hk
     ·exact i2 hl
     ·exact h2 k hk (by simp [Fo.flat,hl])
    ·exact fm h1 (fun k hk hl=>h2 k hk (by simp [Fo.flat,hl])) n3
def bump(N:List Nd)(up:List Nat)(c:Nat):List Nd:=N.mapIdx fun i d=>if i∈up then{d with sz:=d.sz+c}else d
theorem di{N:List Nd}{up:List Nat}{c i:Nat}:(bump N up c)[i]?=(N[i]?).map fun d=>if i∈up then{d with sz:=d.sz+c}else d:=by simp [bump]
theorem Al(N:List Nd)(c:Nat):bump N [] c=N:=by
 refine uQ fun i=>?_
 rw [di];simp
theorem iY(N:List Nd)(up:List Nat)(c:Nat):(bump N up c).length=N.length:=by simp [bump]
theorem Od(N:List Nd)(up:List Nat)(c:Nat):(bump N up c).map (·.a)=N.map (·.a):=by
 refine uQ fun i=>?_
 simp only [xM,di,Option.map_map]
 congr 1;funext d;simp only [Function.comp];split<;>rfl
theorem PE(N:List Nd)(up:List Nat)(c:Nat):(bump N up c).map (·.u)=N.map (·.u):=by
 refine uQ fun i=>?_
 simp only [xM,di,Option.map_map]
 congr 1;funext d;simp only [Function.comp];split<;>rfl
theorem Aq{N:List Nd}{up:List Nat}{c t:Nat}{d:Nd}(h:N[t]?=some d)(_hn:t∉up):(bump N up c).set t {d with sz:=d.sz+c}=bump N (up++[t]) c:=by
 have ht:=(yV.1 h).1;refine uQ fun i=>?_
 rw [uR,iY]
 by_cases hi:t=i
 ·subst hi;rw [yS rfl,yS ht,di,h];simp
 ·rw [zX hi,di,di];have:i∈up++[t]↔i∈up:=by simp [yM hi]
  simp only [this]
structure Ln(b:Nat)(pa:Option Nat)(sd:Bool)(k:Nat)(N N1:List Nd)(ro ro1:Rw):Prop where
 ro:ro1.xs=if pa=none then aB k b ro.xs else ro.xs
 a:N1.map (·.a)=N.map (·.a)
 u:N1.map (·.u)=N.map (·.u)
 nd:∀{i:Nat} {d:Nd},N[i]?=some d→∃d1,N1[i]?=some d1∧d1.p=d.p∧d1.sz=d.sz∧d1.rl.xs=(if pa=some i∧sd=true then aB k b d.rl.xs else d.rl.xs)∧d1.rr.xs=(if pa=some i∧sd=false then aB k b d.rr.xs else d.rr.xs)
theorem gv{α:Type}(f:Nd→α){N:List Nd}{i:Nat}{d d':Nd}(h:N[i]?=some d)(hf:f d'=f d):(N.set i d').map f=N.map f:=by
 refine uQ fun j=>?_
 rw [xM,xM,uR]
 split
 ·rename_i hj;subst hj;rw [yS (yV.1 h).1,h];simp [hf]
 ·rfl
theorem Ln.left{b t k:Nat}{N:List Nd}{ro R:Rw}{d:Nd}(h:N[t]?=some d)(hR:R.xs=aB k b d.rl.xs):Ln b (some t) true k N (N.set t {d with rl:=R}) ro ro where
 ro:=by simp
 a:=gv (·.a) h rfl
 u:=gv (·.u) h rfl
 nd:=fun{i e} hi=>by
  by_cases hit:t=i
  ·subst hit;rw [h]at hi;cases hi;refine ⟨{d with rl:=R},by simp [(yV.1 h).1],rfl,rfl,by simp [hR],YA⟩
  ·exact ⟨e,by rw [uR,zX hit,hi],rfl,rfl,by simp [hit],YA⟩
theorem Ln.right{b t k:Nat}{N:List Nd}{ro R:Rw}{d:Nd}(h:N[t]?=some d)(hR:R.xs=aB k b d.rr.xs):Ln b (some t) false k N (N.set t {d with rr:=R}) ro ro where
 ro:=by simp
 a:=gv (·.a) h rfl
 u:=gv (·.u) h rfl
 nd:=fun{i e} hi=>by
  by_cases hit:t=i
  ·subst hit;rw [h]at hi;cases hi;refine ⟨{d with rr:=R},by simp [(yV.1 h).1],rfl,rfl,YA,by simp [hR]⟩
  ·exact ⟨e,by rw [uR,zX hit,hi],rfl,rfl,YA,by simp [hit]⟩
theorem Ln.root{b k:Nat}{N:List Nd}{ro R:Rw}(hR:R.xs=aB k b ro.xs):Ln b none false k N N ro R where
 ro:=by simp [hR]
 a:=rfl
 u:=rfl
 nd:=fun{i e} hi=>⟨e,hi,rfl,rfl,YA,YA⟩
def Sq.one(q:Sq)(x:Un)(b:Nat):Sq:=⟨q.put x,q.ad++[b],true⟩
theorem Sq.IF{q:Sq}{x:Un}{b i:Nat}(hl:q.ad.length=q.us.length)(h:i<q.us.length):(q.one x b).a i=q.a i:=by
 simp [Sq.a,Sq.one,vJ (show i<q.ad.length by omega)]
theorem Sq.CI{q:Sq}{x:Un}{b:Nat}(hl:q.ad.length=q.us.length):(q.one x b).a q.us.length=b:=by
 simp [Sq.a,Sq.one,←hl]
theorem Sq.qg{q:Sq}{x:Un}{b:Nat}(hl:q.ad.length=q.us.length){l:List Nat}(h:∀i∈l,i<q.us.length):l.map (q.one x b).a=l.map q.a:=List.map_congr_left fun i hi=>Sq.IF hl (h i hi)
theorem lH{q:Sq}{x:Un}{b k:Nat}(hl:q.ad.length=q.us.length){l:List Nat}(h:∀i∈l,i<q.us.length):(aB k q.us.length l).map (q.one x b).a=aB k b (l.map q.a):=by
 rw [iO,Sq.CI hl,Sq.qg hl h]
theorem pJ.one{q:Sq}{fr:Bool}{at_:List (aL×Value)}{ord ro ord1 ro1:Rw}{N N1:List Nd}{x:Un}{b k:Nat}{pa:Option Nat}{sd:Bool}{up:List Nat}(h:pJ q fr at_ ord ro N)(ht:q.tr=true)(hm:q.may x=true)(ep:q.us.length<1000000)
  (g:Grown q.F (q.put x).F q.us.length pa sd k up (q.pl x))(md:Ln b pa sd k N N1 ro ro1)(ho:ord1.xs=aB (q.pl x) b ord.xs)(rn:Rw)(hr:rn.xs=[]):pJ (q.one x b) false at_ ord1 ro1 (bump N1 up 1++[⟨b,x,pa.map q.a,1,rn,rn⟩]):=by
 have hl:=h.K7;have hid:q.idx x.id=none:=by
  simp only [Us.may,wR,uK]at hm;exact hm.1.1.1.2
 have UK:x.id.right=true:=by
  simp only [Us.may,wR]at hm;exact hm.1.1.1.1
 have cP:=h.ok.put UK hid;have aM:∀i∈q.F.flat,i<q.us.length:=fun i hi=>(h.ok.mem i).1 hi
 have AF:N.length=q.us.length:=by rw [←h.l.us,uF]
 have Wo:N1.length=q.us.length:=by rw [←AF,←uF (f:=(·.a)),md.a,uF]
 refine ⟨?_,fun _=>?_,⟨?_,?_,fun _ i p s a' b' hA=>?_⟩,cP,?_,fun hh=>by cases hh⟩
 ·rw [ho,h.o];show _=(q.put x).F.flat.map _;rw [g.flat,lH hl aM]
 ·rw [md.ro,h.r ht];show _=(q.put x).F.roots.map _;rw [g.roots]
  split
  ·rw [lH hl fun i hi=>aM i (Fo.bT _ i hi)]
  ·rw [Sq.qg hl fun i hi=>aM i (Fo.bT _ i hi)]
 ·rw [uJ,Od,md.a,h.l.ad];rfl
 ·rw [uJ,PE,md.u,h.l.us];rfl
 ·rcases g.old hA with⟨rfl,rfl,rfl,rfl⟩|⟨dP,a,c,h1,h2,h3,h4⟩
  ·refine ⟨⟨b,x,p.map q.a,1,rn,rn⟩,?_,?_,by simp [Fo.sz,Fo.flat],by simp [hr,Fo.roots],by simp [hr,Fo.roots]⟩
   ·rw [vM (by rw [iY];omega),iY,Wo];simp
   ·cases p with
    |none=>rfl
    |some t=>
     have:=g.new;have ht:t∈q.F.flat∨t=q.us.length:=by
      have h9:=hA.path (up:=[]) cP.nd YA;obtain ⟨t',_,hq,Gd⟩:=h9;rcases Gd with rfl|⟨q',e,_,bm⟩
      ·cases hq
      ·cases e;rw [show(q.one x b).F=(q.put x).F from rfl,g.flat]at bm;rcases oB.1 bm with e|e
       ·exact .inr e
       ·exact .inl e
     rcases ht with ht|rfl
     ·simp [Sq.IF hl (aM t ht)]
     ·exfalso;have h9:=hA.gO (up:=[]) (p:=q.us.length) cP.nd YA hA.mem.1;obtain ⟨t',e1,hq,Gd⟩:=hA.path (up:=[]) cP.nd YA;rcases Gd with rfl|⟨q',e,e2,_⟩
      ·cases hq
      ·cases e;rw [e1]at e2;exact absurd (xZ List.length e2) YA
  ·have hi:i<q.us.length:=aM i h1.mem.1;obtain ⟨d,d1,d2,d3,d4,d5,d6,d7,d8⟩:=h.node ht hi h1;obtain ⟨e,e1,e2,e3,e4,e5⟩:=md.nd d1;refine ⟨if i∈up then{e with sz:=e.sz+1}else e,?_,?_,?_,?_,?_⟩
   ·rw [vJ (by rw [iY];omega),di,e1];rfl
   ·have:(if i∈up then{e with sz:=e.sz+1}else e).p=e.p:=by split<;>rfl
    rw [this,e2,d5];cases p with
    |none=>rfl
    |some t=>
     obtain ⟨t',_,hq,Gd⟩:=h1.path (up:=[]) h.ok.nd YA;rcases Gd with rfl|⟨q',e,_,bm⟩
     ·cases hq
     ·cases e;simp [Sq.IF hl (aM t bm)]
   ·split
    ·rename_i po;rw [yS po]at h4;simp only [e3,d6];omega
    ·rename_i po;rw [zX po]at h4;rw [e3,d6];omega
   ·have:(if i∈up then{e with sz:=e.sz+1}else e).rl=e.rl:=by split<;>rfl
    rw [this,e4,h2,d7];have hs:∀y∈a.roots,y<q.us.length:=fun y hy=>aM y (h1.mem.2.1 y (Fo.bT _ y hy))
    split
    ·rw [lH hl hs]
    ·rw [Sq.qg hl hs]
   ·have:(if i∈up then{e with sz:=e.sz+1}else e).rr=e.rr:=by split<;>rfl
    rw [this,e5,h3,d8];have hs:∀y∈c.roots,y<q.us.length:=fun y hy=>aM y (h1.mem.2.2 y (Fo.bT _ y hy))
    split
    ·rw [lH hl hs]
    ·rw [Sq.qg hl hs]
 ·show(q.put x).us.length≤_;rw [Us.gB];omega
def Sq.more(q:Sq)(y:Un)(bs:List Nat):Sq:=⟨q.cG y bs.length,q.ad++bs,true⟩
theorem Sq.By{q:Sq}{y:Un}{bs:List Nat}{i:Nat}(hl:q.ad.length=q.us.length)(h:i<q.us.length):(q.more y bs).a i=q.a i:=by
 simp [Sq.a,Sq.more,vJ (show i<q.ad.length by omega)]
theorem Sq.nW{q:Sq}{y:Un}{bs:List Nat}{t:Nat}(hl:q.ad.length=q.us.length):(q.more y bs).a (q.us.length+t)=bs.getD t 0:=by
 simp only [Sq.a,Sq.more,uB,←hl];rw [vM J9,Nat.add_sub_cancel_left]
theorem Sq.kO{q:Sq}{y:Un}{bs:List Nat}(hl:q.ad.length=q.us.length){l:List Nat}(h:∀i∈l,i<q.us.length):l.map (q.more y bs).a=l.map q.a:=List.map_congr_left fun i hi=>Sq.By hl (h i hi)
theorem Sq.BI{q:Sq}{y:Un}{bs:List Nat}(hl:q.ad.length=q.us.length):((List.range bs.length).map (q.us.length+·)).map (q.more y bs).a=bs:=by
 refine uQ fun i=>?_
 simp only [uM,xM,Function.comp_def]
 by_cases h:i<bs.length
 ·simp [List.getElem?_range h,Sq.nW hl,xW h]
 ·simp [tK (show bs.length≤i by omega),tK (show(List.range bs.length).length≤i by simp;omega)]
structure MJ(q:Sq)(l:Nat)(y:Un)(more:Nat)(bs:List Nat)(Nb M:List Nd):Prop where
 old:∀{i:Nat} {d:Nd},Nb[i]?=some d→∃R,M[i]?=some {d with rr:=R}∧R.xs=(if i=l∧bs≠[]then[bs.getD 0 0]else d.rr.xs)
 new:∀t,t<bs.length→∃rl rr,M[Nb.length+t]?=some ⟨bs.getD t 0,Us.nx y t,some (if t=0 then q.a l else bs.getD (t-1) 0),more-t,rl,rr⟩∧rl.xs=[]∧rr.xs=(if t+1<bs.length then[bs.getD (t+1) 0]else[])
 len:M.length=Nb.length+bs.length
theorem MJ.start{q:Sq}{l:Nat}{y:Un}{more:Nat}{Nb:List Nd}:MJ q l y more [] Nb Nb:=⟨fun{i d} h=>⟨d.rr,h,YA⟩,fun t h=>by simp at h,YA⟩
theorem MJ.step{q:Sq}{l:Nat}{y:Un}{more b z:Nat}{bs:List Nat}{Nb M:List Nd}{d:Nd}{R rn rn':Rw}(h:MJ q l y more bs Nb M)(pY:l<Nb.length)(hz:z=if bs=[]then l else Nb.length+bs.length-1)(hd:M[z]?=some d)(Wk:d.a=if bs=[]then q.a l else bs.getD (bs.length-1) 0)(hR:R.xs=[b])(h1:rn.xs=[])(h2:rn'.xs=[]):
  MJ q l y more (bs++[b]) Nb (M.set z {d with rr:=R}++[⟨b,Us.nx y bs.length,some d.a,more-bs.length,rn,rn'⟩])where
 len:=by simp [h.len];omega
 old:=fun{i e} hi=>by
  have iA:=(yV.1 hi).1;obtain ⟨R0,g1,g2⟩:=h.old hi;have aM:i<(M.set z {d with rr:=R}).length:=by rw [vB,h.len];omega
  rw [vJ aM,uR]
  by_cases XN:z=i
  ·subst XN;have hb:bs=[]:=by
    cases bs with
    |nil=>rfl
    |cons a bs=>simp at hz;omega
   subst hb;simp only [yT]at hz;rw [hd]at g1;cases g1;refine ⟨R,by rw [yS rfl,yS (yV.1 hd).1],?_⟩;rw [hR,yS ⟨hz,YA⟩];rfl
  ·rw [zX XN];refine ⟨R0,g1,?_⟩;rw [g2]
   by_cases iA:i=l
   ·have hb:bs≠[]:=fun hh=>by rw [yS hh]at hz;omega
    rw [yS ⟨iA,hb⟩,yS ⟨iA,YA⟩];cases bs with
    |nil=>exact absurd rfl hb
    |cons a bs=>rfl
   ·rw [zX (fun hh=>iA hh.1),zX (fun hh=>iA hh.1)]
 new:=fun t ht=>by
  rw [zY,uW]at ht;have Pg:∀j,j<bs.length→(bs++[b]).getD j 0=bs.getD j 0:=fun j hj=>by simp [vJ hj]
  have Xd:(bs++[b]).getD bs.length 0=b:=by simp
  rcases xA t bs.length with px|px
  ·obtain ⟨rl,rr,g1,g2,g3⟩:=h.new t px;have aM:Nb.length+t<(M.set z {d with rr:=R}).length:=by rw [vB,h.len];omega
   have Pp:bs≠[]:=fun hh=>by subst hh;simp at px
   rw [zX Pp]at hz;rw [vJ aM,uR,Pg t px];have Q3:(if t=0 then q.a l else(bs++[b]).getD (t-1) 0)=(if t=0 then q.a l else bs.getD (t-1) 0):=by
    split
    ·rfl
    ·rw [Pg _ J9]
   rw [Q3]
   by_cases TR:z=Nb.length+t
   ·rw [yS TR,yS (by rw [TR,h.len];omega)];rw [TR,g1]at hd;cases hd;refine ⟨rl,R,rfl,g2,?_⟩;rw [hR,yS J6,show t+1=bs.length by omega,Xd]
   ·rw [zX TR];refine ⟨rl,rr,g1,g2,?_⟩;rw [g3,yS J9,yS J6,Pg _ J9]
  ·have:t=bs.length:=by omega
   subst this;refine ⟨rn,rn',?_,h1,by rw [h2,zX YA]⟩;rw [vM (by rw [vB,h.len];omega),vB,h.len,tG,Xd,Wk];simp only [wZ]
   congr 2
   cases bs with
   |nil=>rfl
   |cons a bs=>
    rw [zX YA,zX YA,Pg _ YA]
theorem pJ.chain{q:Sq}{fr:Bool}{at_:List (aL×Value)}{ord ro ord1:Rw}{N M:List Nd}{y:Un}{bs:List Nat}{l:Nat}{p:Option Nat}{s:Bool}(h:pJ q fr at_ ord ro N)(ht:q.tr=true)(ep:q.us.length+bs.length≤1000000)(hr:q.lu y bs.length)(hl:q.idx y.l=some l)(hA:Fo.At q.F none false l p s .nil .nil)(sr:q.idx y.r≠some l)
  (c:MJ q l y bs.length bs (bump N (Fo.path [] q.F l) bs.length) M)(ho:ord1.xs=ord.xs.take (q.place l+1)++(bs++ord.xs.drop (q.place l+1))):pJ (q.more y bs) false at_ ord1 ro M:=by
 have iH:=h.K7;have aM:∀i∈q.F.flat,i<q.us.length:=fun i hi=>(h.ok.mem i).1 hi
 have AF:N.length=q.us.length:=by rw [←h.l.us,uF]
 have gF:=h.ok.Cd hA hl sr;have fh:=hr.pos;obtain ⟨n,hn⟩:∃n,bs.length=n+1:=⟨bs.length-1,J9⟩;have Pp:bs≠[]:=fun hh=>by rw [hh]at hn;simp at hn
 obtain ⟨pa,sd,k,up,g,_,_,_,g2,G⟩:=h.ok.F3 hr;obtain ⟨rfl,e2,e3,_⟩:=g2 gF;obtain ⟨rfl,rfl⟩:=e3 _ hl;rw [hl]at e2;subst e2;have Bn:=At.db hA h.ok.nd;have A0:q.pl y=q.place l+1:=by simp [Us.pl,gF,hl,Bn,Us.kR,Fo.roots,Fo.pre]
 obtain ⟨G,_⟩:=G n J9;rw [←hn,A0,Bn]at G;have ib:q.kR (Fo.nil).roots y=0:=by simp [Us.kR,Fo.roots]
 simp only [ib]at G;have cP:=Us.nH h.ok hr bs.length (yP _);have KT:(bump N (Fo.path [] q.F l) bs.length).length=q.us.length:=by rw [iY,AF]
 have hMl:M.length=q.us.length+bs.length:=by rw [c.len,KT]
 have old:∀{i:Nat},i<q.us.length→∃d R,N[i]?=some d∧M[i]?=some {(if i∈Fo.path [] q.F l then{d with sz:=d.sz+bs.length}else d)with rr:=R}∧R.xs=(if i=l then[bs.getD 0 0]else d.rr.xs):=fun{i} hi=>by
  obtain ⟨d,d1,_⟩:=h.l.get hi;obtain ⟨R,r1,r2⟩:=c.old (i:=i) (by rw [di,d1];rfl);refine ⟨d,R,d1,r1,r2.trans ?_⟩;have:(if i∈Fo.path [] q.F l then{d with sz:=d.sz+bs.length}else d).rr=d.rr:=by split<;>rfl
  rw [this];simp [Pp]
 refine ⟨?_,fun _=>?_,⟨?_,?_,fun _ i p s a' b' WL=>?_⟩,cP,?_,fun hh=>by cases hh⟩
 ·rw [ho,h.o];show _=(q.cG y bs.length).F.flat.map _;rw [G.flat,uJ,uJ,Sq.BI iH,Sq.kO iH (fun i hi=>aM i (List.mem_of_mem_take hi)),Sq.kO iH (fun i hi=>aM i (tD hi)),List.map_take,List.map_drop]
 ·rw [h.r ht];show _=(q.cG y bs.length).F.roots.map _;rw [G.roots,zX YA,Sq.kO iH fun i hi=>aM i (Fo.bT _ i hi)]
 ·refine uQ fun i=>?_
  rw [xM];show _=(q.ad++bs)[i]?;rcases xA i q.us.length with hi|hi
  ·obtain ⟨d,R,d1,d2,_⟩:=old hi;rw [d2,vJ J9,←h.l.ad,xM,d1];simp only [uS]
   split<;>rfl
  ·rw [vM J9];obtain ⟨t,rfl⟩:∃t,i=q.us.length+t:=⟨i-q.us.length,J9⟩;rw [show q.us.length+t-q.ad.length=t by omega];rcases xA t bs.length with px|px
   ·obtain ⟨rl,rr,n1,_⟩:=c.new t px;rw [KT]at n1;rw [n1];simp [xW px]
   ·rw [tK J9,tK J9];rfl
 ·refine uQ fun i=>?_
  rw [xM];show _=(q.cG y bs.length).us[i]?;rw [Us.lO];rcases xA i q.us.length with hi|hi
  ·obtain ⟨d,R,d1,d2,_⟩:=old hi;rw [d2,vJ J9,←h.l.us,xM,d1];simp only [uS]
   split<;>rfl
  ·rw [vM J9];obtain ⟨t,rfl⟩:∃t,i=q.us.length+t:=⟨i-q.us.length,J9⟩;rw [Nat.add_sub_cancel_left];rcases xA t bs.length with px|px
   ·obtain ⟨rl,rr,n1,_⟩:=c.new t px;rw [KT]at n1;rw [n1];simp [px]
   ·rw [tK J9,tK J6];rfl
 ·rcases G.old WL with⟨j,hj,rfl,hp,rfl,hb,hs⟩|⟨hi,a,b,h1,h2,h3,h4⟩
  ·obtain ⟨rl,rr,n1,n2,n3⟩:=c.new j hj;rw [KT]at n1;refine ⟨_,n1,?_,?_,by rw [n2];rfl,?_⟩
   ·subst hp;simp only
    split
    ·simp [Sq.By iH (aM l hA.mem.1)]
    ·rename_i Yk;rw [show q.us.length+j-1=q.us.length+(j-1) by omega,uS,Sq.nW iH]
   ·have:(Fo.nil).sz=0:=rfl;simp only [this];omega
   ·rw [n3,hb]
    split
    ·rw [List.map_singleton,show q.us.length+j+1=q.us.length+(j+1) by omega,Sq.nW iH]
    ·rfl
  ·obtain ⟨d,R,d1,d2,d3⟩:=old hi;obtain ⟨d',e1,_,_,_,e5,e6,e7,e8⟩:=h.node ht hi h1;rw [d1]at e1;cases e1;refine ⟨_,d2,?_,?_,?_,?_⟩
   ·have:(if i∈Fo.path [] q.F l then{d with sz:=d.sz+bs.length}else d).p=d.p:=by split<;>rfl
    refine Eq.trans this ?_;rw [e5];cases p with
    |none=>rfl
    |some t=>
     obtain ⟨t',_,hq,Gd⟩:=h1.path (up:=[]) h.ok.nd YA;rcases Gd with rfl|⟨q',e,_,bm⟩
     ·cases hq
     ·cases e;simp [Sq.By iH (aM t bm)]
   ·simp only
    split
    ·rename_i po;rw [yS po]at h4;simp only [e6];omega
    ·rename_i po;rw [zX po]at h4;rw [e6];omega
   ·have:(if i∈Fo.path [] q.F l then{d with sz:=d.sz+bs.length}else d).rl=d.rl:=by split<;>rfl
    simp only [this,e7,h2];rw [zX YA,Sq.kO iH fun y hy=>aM y (h1.mem.2.1 y (Fo.bT _ y hy))]
   ·show R.xs=_;rw [d3,h3]
    by_cases iA:i=l
    ·subst iA;obtain ⟨_,_,rfl,rfl⟩:=h1.uniq hA h.ok.nd;rw [yS rfl,yS ⟨rfl,rfl⟩];have:=Sq.nW (q:=q) (y:=y) (bs:=bs) (t:=0) iH;simp only [aB,Fo.roots,List.take_nil,List.drop_nil,yC,List.map_singleton];rw [←this];rfl
    ·rw [zX iA,zX (by simp [yM iA]),e8,Sq.kO iH fun y hy=>aM y (h1.mem.2.2 y (Fo.bT _ y hy))]
 ·show(q.cG y bs.length).us.length≤_;rw [Us.kZ];exact ep
end Go.Proofs.YtgpgladbdoimdaaGreatDoor
namespace Go.Proofs.YtgpgladbdoimdaaGreatDoor
open Go.ChangeShapes Go.WideShapes Go.ChangeAt Go.RowKit Go.Ev Go.Ids Go.SeqP
set_option maxRecDepth 20000
set_option maxHeartbeats 2000000
theorem GW{q:Sq}{s ra rt:Nat}{fr:Bool}{at_:List (aL×Value)}{ord ro:Rw}{N:List Nd}{F:List az}{i a0:Nat}{d:Nd}(h:N[i]?=some d)(ha:d.a=a0)(c:Nat):
  kq (ab a0 178 (nC d.u d.p d.rl.v d.rr.v d.sz)) (ab a0 178 (nC d.u d.p d.rl.v d.rr.v (d.sz+c))) (fU q s ra rt fr at_ ord ro N F) (fU q s ra rt fr at_ ord ro (N.set i {d with sz:=d.sz+c}) F):=by
 subst ha;have h1:kq d.A (Nd.A {d with sz:=d.sz+c}) (eZ N) (eZ (N.set i {d with sz:=d.sz+c})):=FQ (d:=d) (d':={d with sz:=d.sz+c}) rfl rfl h;exact .tail (.tail (.tail (.tail (.tail (kq.app h1 F)))))
def SN(m0:World)(M0 X:List Nat)(s b b3:Nat)(q:Sq)(x:Un)(m:World):Prop:=∃pa sd k up ra rt fr at_ ord ro N ro1 N1,Grown q.F (q.put x).F q.us.length pa sd k up (q.pl x)∧(pa=none→up=[])∧(∀t,pa=some t→t∈q.F.flat∧up=Fo.path [] q.F t)∧
 pJ q fr at_ ord ro N∧Ln b pa sd k N N1 ro ro1∧Tr m0 M0 X m (fU q s ra rt fr at_ ord ro1 N1 [ab b 178 (nC x (pa.map q.a) (.slice none 0 0) (.slice none 0 0) 1),ab b3 101 (uC x)])
theorem SU(S:List Nat)(s:Nat)(q:Sq)(x:Un)(ht:q.tr=true)(hm:q.may x=true)(ep:q.us.length<1000000):bu Tryz.prog 229 [pA s,uV x] [a7 S s q] (fun _ H=>∃S' b,H=[a7 S' s (q.one x b)]):=by
 intro m0 X hS;have hq:q.Ok:=by obtain ⟨_,_,_,_,_,_,_,k,_⟩:=bl hS;exact k.ok
 have hid:q.idx x.id=none:=by
  simp only [Us.may,wR,uK]at hm;exact hm.1.1.1.2
 refine aP.zA Tryz.func229 ?_;refine go ?_;refine ac8 ?_;(try clear hS);intro b3 m hS;refine ab4 ?_;refine ac8 ?_;(try clear hS);intro b m hS;refine aa1 ?_;have hS:Tr m0 (au [a7 S s q]) X m [ab b 178 (nC x none (.slice none 0 0) (.slice none 0 0) 1),ab b3 101 (uC x),a7 S s q]:=hS;have hS:Tr m0 (au [a7 S s q]) X m [a7 S s q,ab b 178 (nC x none (.slice none 0 0) (.slice none 0 0) 1),ab b3 101 (uC x)]:=hS.perm (xI (l₁:=[_,_]) (l₂:=[_]));obtain ⟨ra,rt,fr,at_,ord,ro,N,k,hS⟩:=bl hS;have hN:ab b3 101 (uC x)∈eZ N++[ab b 178 (nC x none (.slice none 0 0) (.slice none 0 0) 1),ab b3 101 (uC x)]:=by simp
 have Pg:=k.get x.l;have XI:=k.get x.r;refine go ?_;refine RH.lookup aa ai.calm ko rfl J7 rfl rfl rfl rfl rfl rfl rfl JQ Pg rfl ?_;refine RH.lookup aa ai.calm ko rfl J7 rfl rfl rfl rfl rfl rfl rfl JQ XI rfl ?_;refine go ?_;obtain ⟨S2,hS⟩:=a8 k hS;clear hN Pg XI k;refine RL.tail (X:=Unit) (fun _=>[(0,pA s),(3,pA b3),(4,pA b),(7,.int .i64 (q.pl x:Nat))]) (fun _ m=>SN m0 (au [a7 S s q]) X s b b3 q x m) ?_ (fun tl=>?_)
 ·clear hS;rintro _ m ⟨pa,sd,kk,up,ra,rt,fr,at_,ord,ro,N,ro1,N1,g,g0,g3,k,md,hS⟩;have hN:ab b3 101 (uC x)∈eZ N1++[ab b 178 (nC x (pa.map q.a) (.slice none 0 0) (.slice none 0 0) 1),ab b3 101 (uC x)]:=by simp
  have s3:ab b 178 (nC x (pa.map q.a) (.slice none 0 0) (.slice none 0 0) 1)∈eZ N1++[ab b 178 (nC x (pa.map q.a) (.slice none 0 0) (.slice none 0 0) 1),ab b3 101 (uC x)]:=by simp
  refine go ?_;clear hN s3;refine (WP.eo (X:=Option Nat) (fun i=>[(0,pA s),(3,pA b3),(4,pA b),(7,.int .i64 (q.pl x:Nat)),(8,pO (i.map q.a))])
   (fun i m'=>∃pre,up=pre++(match i with|none=>[]|some t=>Fo.path [] q.F t)∧(∀t,i=some t→t∈q.F.flat)∧Tr m0 (au [a7 S s q]) X m' (fU q s ra rt fr at_ ord ro1 (bump N1 pre 1) [ab b 178 (nC x (pa.map q.a) (.slice none 0 0) (.slice none 0 0) 1),ab b3 101 (uC x)]))
   (fun i m'=>i=none∧Tr m0 (au [a7 S s q]) X m' (fU q s ra rt fr at_ ord ro1 (bump N1 up 1) [ab b 178 (nC x (pa.map q.a) (.slice none 0 0) (.slice none 0 0) 1),ab b3 101 (uC x)]))
   (fun i=>match i with|none=>0|some t=>(Fo.path [] q.F t).length) pa 0 YC ⟨[],?_,fun t e=>(g3 t e).1,by rw [Al];exact hS⟩ ?_ ?_)
  ·cases pa with
   |none=>rw [g0 rfl];rfl
   |some t=>rw [(g3 t rfl).2];rfl
  ·clear hS;rintro i m ⟨pre,po,hi,hS⟩;cases i with
   |none=>
    refine go ?_;refine WP.exit (QN.tx (QN.tx (QN.du none YC ⟨rfl,?_⟩)));rw [po,vI];exact hS
   |some t=>
    have bm:=hi t rfl;have po:up=pre++Fo.path [] q.F t:=po;have px:=(hq.mem t).1 bm;obtain ⟨pp,ss,fa,fb,hA⟩:=Fo.At.dV none false bm;obtain ⟨d,d1,d2,d3,d4,d5,d6,d7,d8⟩:=k.node ht px hA;obtain ⟨e,e1,e2,e3,e4,e5⟩:=md.nd d1;obtain ⟨t',p1,p2,p3⟩:=hA.path (up:=[]) hq.nd YA;have qv:=fm (p:=t) (f:=q.F) (up:=[]) uP YA hq.nd;have Iw:up.Nodup:=by
     cases pa with
     |none=>rw [g0 rfl];exact uP
     |some t0=>rw [(g3 t0 rfl).2];exact fm uP YA hq.nd
    have SX:t∉pre:=fun hh=>by
     rw [po,p1]at Iw;exact (yN.1 Iw).2.2 t hh t (zS ..) rfl
    have B3:(bump N1 pre 1)[t]?=some e:=by rw [di,e1];simp [SX]
    have VG:e.a=q.a t:=by
     have:=xZ (fun l=>l[t]?) md.a;simp only [xM,e1,d1,uS,yJ]at this;rw [this,d3]
    have jr:ab (q.a t) 178 (nC e.u e.p e.rl.v e.rr.v e.sz)∈eZ (bump N1 pre 1)++[ab b 178 (nC x (pa.map q.a) (.slice none 0 0) (.slice none 0 0) 1),ab b3 101 (uC x)]:=by rw [←VG];exact yW _ (bc (xU B3)).1
    obtain ⟨OR,TB⟩:=hq.nR hA;have hw:IntKind.i64.wrap ((e.sz:Int)+1)=((e.sz+1:Nat):Int):=by rw [ag _ J9 J9];omega
    refine go ?_;rw [hw];refine RL.aO aa hS rfl rfl rfl rfl rfl rfl (GW B3 VG 1) rfl ?_;clear hS jr;intro m hS;have BE:=Aq (c:=1) e1 SX;rw [BE]at hS;have GQ:(bump N1 (pre++[t]) 1)[t]?=some {e with sz:=e.sz+1}:=by rw [di,e1];simp
    have jr:ab (q.a t) 178 (nC e.u e.p e.rl.v e.rr.v (e.sz+1))∈eZ (bump N1 (pre++[t]) 1)++[ab b 178 (nC x (pa.map q.a) (.slice none 0 0) (.slice none 0 0) 1),ab b3 101 (uC x)]:=by rw [←VG];exact yW _ (bc (xU GQ)).1
    refine go ?_;rw [e2,d5];refine QN.round pp YC ⟨pre++[t],?_,?_,hS⟩ ?_
    ·rcases p3 with rfl|⟨q',rfl,p4,_⟩
     ·simp only [List.head?_nil]at p2;subst p2;rw [po,p1];simp
     ·rw [po,p1,←p4];simp
    ·rintro t2 rfl;rcases p3 with rfl|⟨q',h9,_,p5⟩
     ·cases p2
     ·cases h9;exact p5
    ·rcases p3 with rfl|⟨q',rfl,p4,_⟩
     ·simp only [List.head?_nil]at p2;subst p2;show 0<(Fo.path [] q.F t).length;rw [p1];simp
     ·show(Fo.path [] q.F q').length<(Fo.path [] q.F t).length;rw [p1,p4];simp
  ·clear hS;rintro _ m ⟨rfl,hS⟩;refine QN.bx ?_;have hN:ab b3 101 (uC x)∈eZ (bump N1 up 1)++[ab b 178 (nC x (pa.map q.a) (.slice none 0 0) (.slice none 0 0) 1),ab b3 101 (uC x)]:=by simp
   refine go ?_;refine RH.fD (k:=x.id) (v:=pA b) aa hS ko rfl J7 rfl rfl rfl rfl rfl rfl rfl JQ JN rfl J7 ?_;clear hS;intro m hS;have hle:g.le=g.le:=rfl;have fI:ord.xs.length=q.us.length:=by rw [k.o,uF,hq.fe]
   have A0:q.pl x≤ord.xs.length:=by rw [fI,←hq.fe];exact g.le
   have hS:Tr m0 (au [a7 S s q]) X m (ab s 175 [.map (some ra),ord.v,ro1.v,.map (some rt),.bool fr]::mapA ra iV (cI q.fq x.id (pA b))::mapA rt iV at_::aF ord.S 176 1 ord.v ord.xs.length (ord.xs.map pA)::ro1.A::(eZ (bump N1 up 1)++[ab b 178 (nC x (pa.map q.a) (.slice none 0 0) (.slice none 0 0) 1),ab b3 101 (uC x)])):=hS;refine QN.calm ?_;refine YJ ?_;refine go ?_;refine RL.aA aa hS [.tmp 76] [pA b] rfl rfl rfl rfl rfl rfl JO rfl rfl rfl ?_;clear hS;intro b' m hS;refine ⟨_,rfl,?_⟩;refine zD (qq ord.v (.slice (some ⟨b',0,none⟩) 1 1) ord.S [b'] ord.xs.length (q.pl x) 1 (ord.xs.map pA) [pA b] A0 J9 J9 (fun z hz=>by obtain ⟨_,_,rfl⟩:=vE.1 hz;rfl) (fun z hz=>by simp only [zT]at hz;subst hz;rfl)) ?_;clear hS;rintro v' m _ ⟨S',rfl⟩ hS;simp only [zC,zN]at hS;obtain ⟨A2,c2,rfl,_⟩:=hS.shape;refine ⟨_,rfl,?_⟩;refine go ?_;refine RL.aO aa hS rfl rfl rfl rfl YB YB JN YB ?_;(try clear hS);intro m hS;refine go ?_;refine RL.aO aa hS rfl rfl rfl rfl YB YB JN YB ?_;(try clear hS);intro m hS;refine go ?_;have eR:(Rw.mk S' (.slice A2 (ord.xs.length+1) c2) (aB (q.pl x) b ord.xs)).A=aF S' 176 1 (.slice A2 (ord.xs.length+1) c2) (ord.xs.length+1) ((ord.xs.map pA).take (q.pl x*1)++[pA b]++(ord.xs.map pA).drop (q.pl x*1)):=by simp only [Rw.A,bO,iO];simp [aB]
   have hk:=k.one ht hm ep g md (ord1:=Rw.mk S' (.slice A2 (ord.xs.length+1) c2) (aB (q.pl x) b ord.xs)) rfl (Rw.mk [] (.slice none 0 0) []) rfl;have mD:(q.one x b).fq=cI q.fq x.id (pA b):=by
    rw [iX]
    ·simp [Sq.fq,Sq.one,Us.put,List.zip_append k.K7.symm]
    ·intro hh;simp only [Sq.fq,uM]at hh;obtain ⟨z,hz,e⟩:=vE.1 hh;exact Us.eP.1 hid (vE.2 ⟨z.1,(List.of_mem_zip hz).1,e⟩)
   have hS:Tr m0 (au [a7 S s q]) X m ((ab s 175 [.map (some ra),.slice A2 (ord.xs.length+1) c2,ro1.v,.map (some rt),.bool false]::mapA ra iV (q.one x b).fq::mapA rt iV at_::(Rw.mk S' (.slice A2 (ord.xs.length+1) c2) (aB (q.pl x) b ord.xs)).A::ro1.A::(eZ (bump N1 up 1)++[ab b 178 (nC x (pa.map q.a) (.slice none 0 0) (.slice none 0 0) 1)]))++[ab b3 101 (uC x)]):=by
    rw [mD,eR];have h1:=hS.perm (vU (l₁:=[_,_,_])).symm;simp only [zC,zN,wM]at h1 ⊢;exact h1
   have hS:=((hS.drop.empty 176 1 none).empty 176 1 none).perm (xI (l₁:=[_,_]));have e2:(eZ (bump N1 up 1)++[ab b 178 (nC x (pa.map q.a) (.slice none 0 0) (.slice none 0 0) 1)])++[(Rw.mk [] (.slice none 0 0) []).A,(Rw.mk [] (.slice none 0 0) []).A]=eZ (bump N1 up 1++[⟨b,x,pa.map q.a,1,Rw.mk [] (.slice none 0 0) [],Rw.mk [] (.slice none 0 0) []⟩])++[]:=by
    simp [eZ,Nd.A]
   have hS:Tr m0 (au [a7 S s q]) X m (fU (q.one x b) s ra rt false at_ (Rw.mk S' (.slice A2 (ord.xs.length+1) c2) (aB (q.pl x) b ord.xs)) ro1 (bump N1 up 1++[⟨b,x,pa.map q.a,1,Rw.mk [] (.slice none 0 0) [],Rw.mk [] (.slice none 0 0) []⟩]) []):=by
    unfold fU;rw [←e2];exact hS
   obtain ⟨S9,hS⟩:=a8 hk hS;exact QN.kg rfl ⟨_,rfl,_,⟨S9,b,rfl⟩,hS⟩
 ·obtain ⟨pa,sd,kk,up,g,g0,g3,g1,g2⟩:=hq.grown x;have fin:∀{m:World} {ra rt:Nat} {fr:Bool} {at_:List (aL×Value)} {ord ro ro1:Rw} {N N1:List Nd},pJ q fr at_ ord ro N→Ln b pa sd kk N N1 ro ro1→Tr m0 (au [a7 S s q]) X m (fU q s ra rt fr at_ ord ro1 N1 [ab b 178 (nC x (pa.map q.a) (.slice none 0 0) (.slice none 0 0) 1)]++[ab b3 101 (uC x)])→SN m0 (au [a7 S s q]) X s b b3 q x m:=
   fun{_ _ _ _ _ _ _ _ _ _} k md hS=>⟨pa,sd,kk,up,_,_,_,_,_,_,_,_,_,g,g0,g3,k,md,by simpa only [yB,wM,yC]using hS⟩
  cases hr:q.idx x.r with
  |none=>
   have gF:q.bA x=none:=by simp [Us.bA,hr]
   obtain ⟨rfl,rfl,h5,h6⟩:=g2 gF;refine go ?_;cases hl:q.idx x.l with
   |none=>
    obtain ⟨rfl,rfl⟩:=h6 hl;rw [hl]at fin;refine zD (HJ S2 s b q x ht hq ep) ?_;clear hS;rintro _ m _ ⟨rfl,ra,rt,fr,at_,ord,ro,N,R,k,hR,rfl⟩ hS;refine aa1 ?_;refine RL.nj aa rfl rfl ?_;refine RL.N1 ?_;exact tl () _ _ (Sub.C1 rfl (Sub.C1 rfl (Sub.C1 rfl (Sub.C1 (by simp only [Us.pl,gF,hl];rw [zU];rfl) Sub.nil)))) (fin k (.root hR) hS)
   |some l=>
    obtain ⟨rfl,rfl⟩:=h5 _ hl;rw [hl]at fin;have pY:=(Us.ba hl).1;obtain ⟨pp,ss,fa,fb,hA⟩:=Fo.At.dV none false ((hq.mem l).2 pY);have FK:=At.db hA hq.nd;rw [FK]at fin;refine zD (An S2 s b q x l pY ht hq ep hA) ?_;clear hS;rintro _ m _ ⟨rfl,ra,rt,fr,at_,ord,ro,N,d,R,k,d1,hR,rfl⟩ hS;refine ⟨_,rfl,?_⟩;refine RL.nj aa rfl rfl ?_;refine RL.N1 ?_;exact tl () _ _ (Sub.C1 rfl (Sub.C1 rfl (Sub.C1 rfl (Sub.C1 (by simp only [Us.pl,gF,hl,FK];rfl) Sub.nil)))) (fin k (.right d1 hR) hS)
  |some r=>
   have iD:=(Us.ba hr).1;obtain ⟨pp,ss,fa,fb,hA⟩:=Fo.At.dV none false ((hq.mem r).2 iD);have FK:=At.db hA hq.nd;cases hl:q.idx x.l with
   |none=>
    have gF:q.bA x=some r:=by simp [Us.bA,hr,hl]
    obtain ⟨rfl,rfl,rfl,rfl⟩:=g1 r gF;rw [FK]at fin;refine go ?_;refine zD (zd S2 s b q x r iD ht hid hA) ?_;clear hS;rintro _ m _ ⟨rfl,ra,rt,fr,at_,ord,ro,N,d,R,k,d1,hR,rfl⟩ hS;refine aa1 ?_;refine RL.nj aa rfl rfl ?_;refine RL.N1 ?_;exact tl () _ _ (Sub.C1 rfl (Sub.C1 rfl (Sub.C1 rfl (Sub.C1 (by simp only [Us.pl,gF,FK];rfl) Sub.nil)))) (fin k (.left d1 hR) hS)
   |some l=>
    have pY:=(Us.ba hl).1;refine go ?_;refine zD (KR S2 s q r l iD pY ht) ?_;clear hS;rintro _ m _ ⟨rfl,S3,rfl⟩ hS;simp only [zC,zN]at hS;refine ⟨_,rfl,?_⟩
    by_cases I0:l∈(Fo.path [] q.F r).tail
    ·rw [zW I0];have gF:q.bA x=some r:=by simp [Us.bA,hr,hl,I0]
     obtain ⟨rfl,rfl,rfl,rfl⟩:=g1 r gF;rw [FK]at fin;refine go ?_;refine zD (zd S3 s b q x r iD ht hid hA) ?_;clear hS;rintro _ m _ ⟨rfl,ra,rt,fr,at_,ord,ro,N,d,R,k,d1,hR,rfl⟩ hS;refine aa1 ?_;refine RL.nj aa rfl rfl ?_;refine RL.N1 ?_;exact tl () _ _ (Sub.C1 rfl (Sub.C1 rfl (Sub.C1 rfl (Sub.C1 (by simp only [Us.pl,gF,FK];rfl) Sub.nil)))) (fin k (.left d1 hR) hS)
    ·rw [zV I0];have gF:q.bA x=none:=by simp [Us.bA,hr,hl,I0]
     obtain ⟨rfl,rfl,h5,h6⟩:=g2 gF;refine go ?_;clear hA FK;obtain ⟨rfl,rfl⟩:=h5 _ hl;rw [hl]at fin;have pY:=(Us.ba hl).1;obtain ⟨pp,ss,fa,fb,hA⟩:=Fo.At.dV none false ((hq.mem l).2 pY);have FK:=At.db hA hq.nd;rw [FK]at fin;refine zD (An S3 s b q x l pY ht hq ep hA) ?_;clear hS;rintro _ m _ ⟨rfl,ra,rt,fr,at_,ord,ro,N,d,R,k,d1,hR,rfl⟩ hS;refine ⟨_,rfl,?_⟩;refine RL.nj aa rfl rfl ?_;refine RL.N1 ?_;exact tl () _ _ (Sub.C1 rfl (Sub.C1 rfl (Sub.C1 rfl (Sub.C1 (by simp only [Us.pl,gF,hl,FK];rfl) Sub.nil)))) (fin k (.right d1 hR) hS)
end Go.Proofs.YtgpgladbdoimdaaGreatDoor
