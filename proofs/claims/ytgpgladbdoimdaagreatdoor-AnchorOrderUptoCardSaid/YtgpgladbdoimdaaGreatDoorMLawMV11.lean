/- Texts that belong together. -/
import Derived.Test.YtgpgladbdoimdaaGreatDoorMLawMV7
import Derived.Laws.CopyRow
import Derived.Lib.Overlaps
import Derived.LaidEqlPtr
import Derived.Laws.IdiomRangeMap
namespace Go.Proofs.YtgpgladbdoimdaaGreatDoor.Us
section
open Go.Ids Go.SeqP
variable{q:Us} {x:Un}
theorem Ok.nI(h:q.Ok){i p:Nat}(hp:q.F.flat[p]?=some i):q.place i=p:=by
 have h1:=h.cF ((h.mem i).1 (xU hp));exact (vZ (yV.1 h1).1 h.nd).1 (h1.trans hp.symm)
theorem uh{α:Type}{x:α}{l:List α}{p i:Nat}(hp:p≤l.length):(aB p x l)[i]?=if i<p then l[i]?else if i=p then some x else l[i-1]?:=by
 unfold aB;have ht:(l.take p).length=p:=by rw [yA];omega
 by_cases h1:i<p
 ·rw [yS h1,vJ J9,xV,yS h1]
 ·rw [zX h1,vM J9,ht]
  by_cases h2:i=p
  ·subst h2;simp
  ·rw [zX h2];obtain ⟨j,rfl⟩:∃j,i=p+j+1:=⟨i-p-1,J9⟩;rw [show p+j+1-p=j+1 by omega,uH,vA]
   congr 1
theorem Ok.EN(h:q.Ok)(hr:x.id.right=true)(hn:q.idx x.id=none):(q.put x).place q.us.length=q.pl x∧∀i,i<q.us.length→(q.put x).place i=if q.place i<q.pl x then q.place i else q.place i+1:=by
 obtain ⟨pa,sd,k,up,g,_⟩:=h.grown x;have h':=h.put hr hn;refine ⟨h'.nI ?_,fun i hi=>h'.nI ?_⟩
 ·rw [g.flat,uh g.le];simp
 ·rw [g.flat,uh g.le];have hp:=h.cF hi
  by_cases h1:q.place i<q.pl x
  ·rw [yS h1,yS h1];exact hp
  ·rw [zX h1,zX J9,zX J9,Nat.add_sub_cancel];exact hp
theorem Ok.RB(h:q.Ok)(hm:q.may x=true){r:Nat}(hr:q.idx x.r=some r):q.pl x≤q.place r:=by
 obtain ⟨iD,Yc⟩:=ba hr;simp only [Us.may,wR,wS,vY]at hm;obtain ⟨⟨⟨_,hl⟩,_⟩,hf⟩:=hm;cases gF:q.bA x with
 |some r'=>
  have:r'=r:=by
   unfold Us.bA at gF;rw [hr]at gF;simp only at gF
   split at gF
   ·exact (yR gF).symm
   ·split at gF
    ·exact (yR gF).symm
    ·cases gF
  subst this;unfold Us.pl;simp only [gF];omega
 |none=>
  unfold Us.bA at gF;simp only [hr]at gF;cases Kf:q.idx x.l with
  |none=>simp [Kf]at gF
  |some l=>
   obtain ⟨pY,Z9⟩:=ba Kf;simp only [Kf]at gF;have I0:l∉(Fo.path [] q.F r).tail:=fun hh=>by rw [yS hh]at gF;cases gF
   have hlr:q.place l<q.place r:=by
    have n5:x.l≠⟨0,0⟩:=fun hh=>by rw [hh,h.nb]at Kf;cases Kf
    have AZ:x.r≠⟨0,0⟩:=fun hh=>by rw [hh,h.nb]at hr;cases hr
    rcases hf with(hf|hf)|hf
    ·exact absurd hf n5
    ·exact absurd hf AZ
    ·simp only [Us.find,Kf,hr]at hf;omega
   obtain ⟨p,s,a,b,hA⟩:=Fo.At.dV none false ((h.mem l).2 pY);have A0:q.pl x=q.place l+1+Fo.pre (q.kR b.roots x) b:=by
    have:q.bA x=none:=by simp [Us.bA,hr,Kf,I0]
    simp only [Us.pl,this,Kf,At.db hA h.nd]
   have hle:=Fo.kY (q.kR b.roots x) b;rw [A0];obtain ⟨pp,ss,ra,rb,hB⟩:=Fo.At.dV none false ((h.mem r).2 iD);obtain ⟨t,e1,_,_⟩:=hB.path (up:=[]) h.nd YA;have X3:l∉Fo.path [] q.F r:=by
    rw [e1];intro hh;rcases yH.1 hh with rfl|hh
    ·omega
    ·exact I0 (by rw [e1];exact hh)
   have WV:r∉b.flat:=fun hh=>X3 ((hA.gO (up:=[]) h.nd YA ((h.mem r).2 iD)).2 (.inr (.inr hh)))
   obtain ⟨u,v,e,_⟩:=hA.split h.nd;have h1:q.F.flat[u.length+a.sz]?=some l:=by
    rw [e,vM J9,vM (by simp [Fo.sz])];simp [Fo.sz]
   have h2:=h.nI h1;have h3:=h.cF iD;rcases xA (q.place r) (q.place l+1+b.sz)with hc|hc
   ·exfalso;apply WV;rw [e,vM J9,vM (by simp only [Fo.sz]at h2;omega)]at h3;obtain ⟨j,hj⟩:∃j,q.place r-u.length-a.flat.length=j+1:=⟨q.place r-u.length-a.flat.length-1,by simp only [Fo.sz]at h2;omega⟩;rw [hj,uH,vJ (by simp only [Fo.sz]at h2 hc;omega)]at h3;exact xU h3
   ·omega
theorem Ok.Ft(h:q.Ok)(hm:q.may x=true)(hr:(nx x 1).id.right=true)(hn:(q.put x).idx (nx x 1).id=none):(q.put x).may (nx x 1)=true:=by
 have UK:x.id.right=true:=by simp only [Us.may,wR]at hm;exact hm.1.1.1.1
 have hid:q.idx x.id=none:=by simp only [Us.may,wR,uK]at hm;exact hm.1.1.1.2
 have hl:(nx x 1).l=x.id:=by simp [nx]
 have sr:(nx x 1).r=x.r:=by simp [nx]
 have iA:(q.put x).idx x.id=some q.us.length:=by rw [nN hid,yS rfl]
 obtain ⟨p1,p2⟩:=h.EN UK hid;unfold Us.may;rw [hr,hn,hl,sr];have P7:q.there x.r=true:=by simp only [Us.may,wR]at hm;exact hm.1.2
 simp only [Us.there,iA,Option.isNone_none,Option.isSome_some,Bool.or_true,Bool.true_and,wR,wS,vY]at P7 ⊢
 by_cases h0:x.r=⟨0,0⟩
 ·exact ⟨.inl h0,.inl (.inr h0)⟩
 ·obtain ⟨r,sj⟩:=uL.1 (P7.resolve_left h0);have dP:x.id≠x.r:=fun hh=>by rw [hh,sj]at hid;cases hid
  have Tf:(q.put x).idx x.r=some r:=by rw [nN hid,zX dP];exact sj
  refine ⟨.inr (by rw [Tf];rfl),.inr ?_⟩;have hle:=h.RB hm sj;simp only [Us.find,iA,Tf,p1,p2 r (ba sj).1];rw [zX J9];omega
theorem Ok.Cd(h:q.Ok){l:Nat}{p:Option Nat}{s:Bool}(hA:Fo.At q.F none false l p s .nil .nil)(hl:q.idx x.l=some l)(hr:q.idx x.r≠some l):q.bA x=none:=by
 unfold Us.bA;cases hi:q.idx x.r with
 |none=>rfl
 |some r=>
  simp only [hl];rw [zX];intro hm;rcases (hA.gO (up:=[]) h.nd YA ((h.mem r).2 (ba hi).1)).1 (List.mem_of_mem_tail hm)with rfl|hh|hh
  ·exact hr hi
  ·simp [Fo.flat]at hh
  ·simp [Fo.flat]at hh
theorem p9(q:Us)(x:Un):∀n,q.cG x (n+1)=(q.put x).cG (nx x 1) n
 |0=>rfl
 |n+1=>by
  have ih:=p9 q x n;have e:nx x (n+1)=nx (nx x 1) n:=by
   cases n with
   |zero=>rfl
   |succ n=>simp [nx];omega
  show(q.cG x (n+1)).put (nx x (n+1))=_;rw [ih,e];rfl
theorem Ok.oH(h:q.Ok){n:Nat}(r:q.lu x (n+2)):(q.put x).lu (nx x 1) (n+1):=by
 have hid:q.idx x.id=none:=by simpa using r.new 0 J9
 have ks:∀i,i<n+1→(q.put x).idx ⟨x.id.c,x.id.k+1+i⟩=none:=fun i hi=>by
  rw [nN hid,zX (fun hh=>by have:=xZ aL.k hh;simp only at this;omega)];have:=r.new (i+1) J9
  rwa [show x.id.k+(i+1)=x.id.k+1+i by omega]at this
 refine ⟨J9,?_,fun i hi=>?_,h.Ft r.may (r.u0 J9) ?_⟩
 ·have:=r.top;rw [lq];simp only;omega
 ·rw [lq];exact ks i hi
 ·rw [lq];simpa using ks 0 J9
theorem Ok.BK(h:q.Ok){n0:Nat}(r:q.lu x n0):∀n,n<n0→(q.cG x (n+1)).ax=q.ax.take (q.pl x)++((List.range (n+1)).map (nx x)++q.ax.drop (q.pl x)):=by
 obtain ⟨pa,sd,k,up,g,_,_,_,_,G⟩:=h.F3 r;intro n hn;obtain ⟨g1,_⟩:=G n hn;have old:∀l:List Nat,(∀i∈l,i∈q.F.flat)→l.map (q.cG x (n+1)).u=l.map q.u:=fun l hl=>List.map_congr_left fun i hi=>Pz (n+1) ((h.mem i).1 (hl i hi))
 have new:((List.range (n+1)).map (q.us.length+·)).map (q.cG x (n+1)).u=(List.range (n+1)).map (nx x):=by
  rw [uM];exact List.map_congr_left fun j hj=>si (List.mem_range.1 hj)
 rw [Us.ax,g1.flat,uJ,uJ,new,old _ fun i hi=>List.mem_of_mem_take hi,old _ fun i hi=>tD hi,Us.ax,List.map_take,List.map_drop]
theorem Ok.lz(h:q.Ok):(q.ax.map (·.id)).Nodup:=by
 rw [Us.ax,uM];refine List.Pairwise.map _ (fun i j E8=>E8) ?_;refine List.Pairwise.imp_of_mem (R:=fun a b=>a≠b) (fun{i j} hi hj E8 hh=>E8 ?_) h.nd;have h1:=h.kB ((h.mem i).1 hi);have h2:=h.kB ((h.mem j).1 hj);simp only [Function.comp_apply]at hh;rw [hh,h2]at h1;exact (yR h1).symm
end
end Go.Proofs.YtgpgladbdoimdaaGreatDoor.Us
namespace Go.Ev
section
open Go.RowKit
variable{P:Program} {T:Ty} {ops:Array Oper} {Q:Exit→Act→World→Prop} {rest:List Oper} {n:Nat} {e e':Env} {D:Fr} {m:World} {d:Option Tmp} {x:Operand} {t ft ty:TypeId} {pos:String} {aft:Array Edge} {g:Option (Nat×Bool)} {v:Value} {r:Row} {fs:List (TypeId×Nat×Nat)} {i off sz k:Nat} {cs:List Value}
theorem RL.field(hT:T.Ok P)(dD:T.row t=some r)(hk:r.k=.stru fs)(hf:fs[i]?=some (ft,off,sz))(L6:T.plain ft=true)(hg:gd ops e ⟨d,.field t x i,ty,pos,aft,g⟩=some true)(hx:e.ev x=some (.agg cs.toArray))(hv:cs[off]?=some v)(hp:aQ n d v e=some e')
  (h:RL P ops Q rest n e' D m):RL P ops Q (⟨d,.field t x i,ty,pos,aft,g⟩::rest) n e D m:=by
 have h1:=(hT.row dD).k;rw [hk]at h1;obtain ⟨F,hF,sB⟩:=h1;have pR:(F.toList.map fun f=>(f.type,f.offset,P.cellsOf f.type))[i]?=some (ft,off,sz):=by rw [sB];exact hf
 rw [xM]at pR;obtain ⟨fl,kd,Fw⟩:=xN.1 pR;simp only [yK]at Fw;obtain ⟨rfl,rfl,rfl⟩:=Fw;have w9:F[i]?=some fl:=by simpa using kd
 obtain ⟨r2,Bg,sL,Lr,xz⟩:=Ty.fu L6;refine RL.value v hg (fun a w pf hs=>?_) hp h;have h2:=(hT.row Bg).cD sL w;rw [Lr]at h2;simp [execOp,pf.ev hx,Instr.field,run_underlying hF,w9,part,asAgg,h2,hv]
end
open Go.RowKit
theorem LD{P:Program}(t:TypeId)(a b:List UInt8)(h:a.length+b.length≤9223372036854775807)(w:World):(binOp .add t (.string (str a)) (.string (str b))).run P w=.ok (.string (str (a++b))) w:=by
 have e:str a++str b=str (a++b):=by
  apply ByteArray.ext;simp [str,ByteArray.data_append]
 have e1:((str a).size+(str b).size:Nat)=a.length+b.length:=by show a.toArray.size+b.toArray.size=_;simp
 have e2:¬(((str a).size+(str b).size:Nat):Int)>IntKind.i64.max:=by rw [e1,show IntKind.i64.max=9223372036854775807 from rfl];omega
 simp only [binOp,Op.stringOp];rw [zX e2,e];rfl
theorem oX(T:Ty)(b x k:Nat):some (Value.pointer (some (LY T (Addr.add ⟨b,0,none⟩ x) k)))=some (.pointer (some ⟨b,x+k,none⟩)):=by
 rw [ur];simp only [Addr.add]
 by_cases hx:x=0
 ·subst hx
  by_cases hk:k=0
  ·subst hk;simp
  ·simp [hk]
 ·by_cases hk:k=0
  ·subst hk;simp [hx]
  ·simp [hk,hx]
theorem aR{p q:Prop}(h:q)(t:Hid q→p:=by
 intro hZ
 repeat(first
  |refine RL.nj eS rfl rfl ?_
  |refine RL.Dj 1 eS rfl rfl ?_
  |refine RL.iU aa hS rfl rfl rfl JI YB YB ?_
  |refine RL.Tg aa hS rfl rfl rfl JI YB YB YB ?_
  |refine RH.oc 60 eS ai.calm rfl J7 rfl ?_
  |refine RH.oc 1 eS ai.calm rfl J7 rfl ?_
  |refine RH.ld aa ai.calm rfl J7 rfl rfl rfl rfl JI YB YB ?_
  |refine RH.TD aa ai.calm rfl J7 rfl rfl rfl rfl JI YB YB YB ?_
  |refine RL.indexAddr aa rfl rfl rfl rfl rfl rfl rfl J9 rfl ?_
  |refine RH.ix aa ai.calm rfl J7 rfl rfl rfl rfl rfl rfl rfl rfl J9 rfl ?_
  |(refine RL.N1 (YJ ?_))
  |(refine RH.stop YB (QN.calm ?_);refine YJ ?_)
  |with_reducible refine WP.S1 ?_|with_reducible refine WP.B1 ?_|with_reducible refine WP.R1 ?_
  |(refine WP.skip (YJ ?_))|refine WP.da rfl ?_|refine WP.bg rfl ?_
  |(refine WP.ret (YI ?_))
  |with_reducible refine QN.B1 ?_|with_reducible refine QN.N1 ?_)
 exact hZ.out):p:=t ⟨h⟩
section
variable{P:Program} {T:Ty} {ops:Array Oper} {Q:Exit→Act→World→Prop} {rest:List Oper} {n:Nat} {e e':Env} {D:Fr} {m0 m w:World} {M0 X:List Nat} {H H':List az}
 {d:Option Tmp} {x y:Operand} {t te ti tb ty:TypeId} {pos:String} {aft:Array Edge} {g:Option (Nat×Bool)} {rt r:Row} {S:List Nat} {sz nn:Nat} {v:Value} {xs cs:List Value}
theorem Tr.zj(h:Tr m0 M0 X m (aF S t sz v nn xs::H))(hn:0<nn):∃b cap cur,v=.slice (some ⟨b,0,none⟩) nn cap∧S=[b]∧nn≤cap∧cap≤maxLen∧cur.length=cap*sz∧cur.take (nn*sz)=xs∧Tr m0 M0 X m (ab b t cur::H):=by
 obtain ⟨b,cap,cur,h1,h2,h3,h4,h5,h6,h7⟩:=Own.at_ (show Own m S t sz v nn xs from h.head) hn;subst h7;exact ⟨b,cap,cur,h1,rfl,h3,h4,h5,h6,h.AA (B:=ab b t cur) (fun _=>h2) (fun k hk=>hk) (by simp [ab])⟩
theorem Tr.rF{b cap:Nat}{cur:List Value}(h:Tr m0 M0 X m (ab b t cur::H))(hn:nn≤cap)(hm:cap≤maxLen)(hl:cur.length=cap*sz):Tr m0 M0 X m (aF [b] t sz (.slice (some ⟨b,0,none⟩) nn cap) nn (cur.take (nn*sz))::H):=
 h.AA (B:=aF [b] t sz (.slice (some ⟨b,0,none⟩) nn cap) nn (cur.take (nn*sz))) (fun hP=>⟨by rw [yA,hl];exact zR (wP _ hn),.inr ⟨b,cap,cur,rfl,hP,hn,hm,hl,rfl,rfl⟩⟩) (fun k hk=>hk) (by simp [aF])
theorem RL.aA(hT:T.Ok P)(hS:Tr m0 M0 X m H){k:Nat}{parts:Array (Nat×Operand)}(xs:List Operand){us:List Value}(cs:List Value)(he:T.elem t=some (te,r))(mz:parts=(eU 0 xs).toArray)(hk:xs.length=k)(dP:Nat.blt 0 k=true)(jg:Nat.ble k 16000=true)
  (Fs:e.kj xs=some us)(hu:∀u∈us,u.cells.size=r.size)(x9:us.flatMap (·.cells.toList)=cs)(hl:cs.length=k*r.size)(hg:gd ops e ⟨d,.buildSlice t k parts,ty,pos,aft,g⟩=some true)
  (h:∀b m',Tr m0 M0 X m' (aF [b] te r.size (.slice (some ⟨b,0,none⟩) k k) k cs::H)→∃e',aQ n d (.slice (some ⟨b,0,none⟩) k k) e=some e'∧RL P ops Q rest n e' D m'):
  RL P ops Q (⟨d,.buildSlice t k parts,ty,pos,aft,g⟩::rest) n e D m:=
 RL.buildSlice hT xs cs he mz hk dP jg Fs hu x9 hg fun b m' hb hC=>by
  have h1:=Tr.rF (sz:=r.size) (nn:=k) (cap:=k) (hS.alloc hC hb) (yP _) (wG (yU jg) J8) hl;rw [yD J9]at h1;exact h b m' h1
theorem RL.pr(hT:T.Ok P)(hS:Tr m0 M0 X m H){t2:TypeId}{b off dl dc sl sc:Nat}{ad:Addr}(vs:List Value)(he:T.elem t=some (te,r))(hg:gd ops e ⟨d,.call ⟨.builtin .copy,#[x,y],#[t,t2]⟩,ty,pos,aft,g⟩=some true)
  (hx:e.ev x=some (.slice (some ⟨b,off,none⟩) dl dc))(hy:e.ev y=some (.slice (some ad) sl sc))(hm:ab b tb cs∈H)(hr:kq (ab b tb cs) (ab b tb (cs.take off++vs++cs.drop (off+vs.length))) H H')
  (hv:vs.length=Nat.min sl dl*r.size)(bN:∀j u,vs[j]?=some u→m.cell? (ad.add j)=some u)(pM:off+vs.length≤cs.length)(h1:∀u∈vs,u.oneCell'=true)(hp:aQ n d (.int .i64 (Nat.min sl dl:Nat)) e=some e')
  (h:∀m',Tr m0 M0 X m' H'→RL P ops Q rest n e' D m'):RL P ops Q (⟨d,.call ⟨.builtin .copy,#[x,y],#[t,t2]⟩,ty,pos,aft,g⟩::rest) n e D m:=by
 obtain ⟨rt,dD,hk,iQ,_,_,_⟩:=Ty.dK he;have hu:=(hT.row dD).k;rw [hk]at hu;have hB:bw m b tb cs:=hS.mem hm;refine RL.fX (.int .i64 (Nat.min sl dl:Nat)) (m.setRow b (cs.take off++vs++cs.drop (off+vs.length)).toArray) hg (fun a w hf hs=>⟨w.setRow b (cs.take off++vs++cs.drop (off+vs.length)).toArray,?_,hs.setRow b _⟩) hp (h _ (hS.UZ hr (fC hB _)));have hw:w.heap[b]?=some (.cells cs.toArray tb (0,0)):=by rw [hs.heap];exact hB
 have hl:=run_loadCells_list (P:=P) w ad vs (fun j u hu=>(hs.cell _).trans (bN j u hu));have iw:=run_storeCells_at P b off tb vs 0 cs.toArray w hw (by simpa using pM) h1;simp only [wJ]at iw;have cz:=fun W=>(hT.row iQ).bX W
 have R7:(Builtin.copy_ #[t,t2] ty #[.slice (some ⟨b,off,none⟩) dl dc,.slice (some ad) sl sc]).run P w=.ok (goInt (Nat.min sl dl)) (w.setRow b (cs.take off++vs++cs.drop (off+vs.length)).toArray):=by
  simp [Builtin.copy_,run_underlying hu,Builtin.lenOf,Builtin.firstCells,cz,←hv,hl,iw]
 simp [execOp,resolve,invoke,builtin,hf.ev hx,hf.ev hy,R7,goInt]
theorem RL.pn(hT:T.Ok P)(hS:Tr m0 M0 X m H)(he:T.elem t=some (te,r))(Tp:(T.row ti).map (·.k)=some (.int .i64)){k i cap:Nat}{j:Int}{ad:Addr}(xs:List Value)
  (hg:gd ops e ⟨d,.call ⟨.builtin .append,#[x,y],#[t,ti]⟩,ty,pos,aft,g⟩=some true)(hx:e.ev x=some (.slice (some ad) i cap))(hy:e.ev y=some (.int .i64 j))(hj:j=(k:Int))(ib:0<k)(WO:cap<i+k)(gj:i+k≤maxLen)(dn:(i+k)*r.bytes≤140737488355328)
  (hl:xs.length=i*r.size)(bN:∀j u,xs[j]?=some u→m.cell? (ad.add j)=some u)
  (h:∀b cap' zs m',Tr m0 M0 X m' (ab b te (xs++zs)::H)→i+k≤cap'→cap'≤maxLen→(xs++zs).length=cap'*r.size→∃e',aQ n d (.slice (some ⟨b,0,none⟩) (i+k) cap') e=some e'∧RL P ops Q rest n e' D m'):
  RL P ops Q (⟨d,.call ⟨.builtin .append,#[x,y],#[t,ti]⟩,ty,pos,aft,g⟩::rest) n e D m:=by
 subst hj;obtain ⟨rt,dD,hk,hr,tN,cz,_⟩:=Ty.dK he;obtain ⟨r1,OE,O3⟩:=xN.1 Tp;have SY:=(hT.row OE).k;rw [O3]at SY;have SG:P.underlying ti=some (.int .i64):=SY;have hu:=(hT.row dD).k;rw [hk]at hu;obtain ⟨inf,hi,yc,A7,GD⟩:=(hT.row hr).parts;have Zb:i+k≤9223372036854775807:=by unfold maxLen at gj;omega
 have Pb:IntKind.i64.wrap (k:Int)=k:=ag _ J9 J9;have T0:¬((9223372036854775807:Int)<(i:Int)+(k:Int)):=by omega
 have PT:max (k:Int) 0=k:=by omega
 have G5:¬((k:Int)<0):=by omega
 have M6:¬(281474976710656<Builtin.nextslicecap (i+k) cap*inf.bytes):=by
  rw [GD];have:=growslice_fits WO dn;omega
 have FN:¬((281474976710656:Int)<(k:Int)*(inf.bytes:Int)):=by
  rw [GD];have h1:k*r.bytes≤(i+k)*r.bytes:=wP _ J9;have:(k:Int)*(r.bytes:Int)≤140737488355328:=by rw [←Int.natCast_mul];omega
  omega
 have U0:¬(k*r.size=0):=Nat.ne_of_gt (Nat.mul_pos ib cz);have xw:¬(i+k≤cap):=by omega
 refine RL.uy (R:=fun v' m'=>∃cap' zs,v'=.slice (some ⟨m.heap.size,0,none⟩) (i+k) cap'∧Tr m0 M0 X m' (ab m.heap.size te (xs++zs)::H)∧i+k≤cap'∧cap'≤maxLen∧(xs++zs).length=cap'*r.size) hg (fun a w hf hs=>?_)
  (fun v' m' ⟨cap',zs,hv,h2,h3,h4,h5⟩=>by subst hv;exact h _ cap' zs m' h2 h3 h4 h5)
 have fW:=grownCap_ge w (i+k) cap te;have kl:=grownCap_le_maxLen w (i+k) cap te gj;let zs:=(Builtin.zeroCells r.zero.cells k).toList++(Builtin.zeroCells r.zero.cells (grownCap w (i+k) cap te-(i+k))).toList;let w':=w.drew.alloc (.cells (xs++zs).toArray te);have hb:bw w' w.heap.size te (xs++zs):=heap_alloc_new w.drew _;have hE:Ext m [] (low m w'):=by
  refine ⟨hs.os,hs.tape,hs.output,by rw [cJ];simp [w',hs.size],fun q hq _=>?_,iF.low (yQ hs.drawn)⟩;rw [cJ];show(w.drew.alloc _).heap[q]?=_;rw [Below.heap_alloc w.drew _ q Jc];show w.heap[q]?=_;rw [hs.heap]
 have hlen:(xs++zs).length=grownCap w (i+k) cap te*r.size:=by
  simp only [zs,zY,hl,fE,tN,←Nat.add_mul];congr 1;omega
 have ON:Tr m0 M0 X (low m w') (ab m.heap.size te (xs++zs)::H):=hS.new (B:=ab m.heap.size te (xs++zs)) hE (fun q hq=>Nat.le_of_eq (show m.heap.size=q from(zT.1 hq).symm)) (by simp [ab]) (by
  show bw (low m w') m.heap.size te _;unfold bw;rw [cJ,←hs.size];exact hb)
 refine ⟨_,w',low m w',?_,bS.low m w',grownCap w (i+k) cap te,zs,rfl,ON,fW,kl,hlen⟩;have IT:(Builtin.firstCells r.size i (.slice (some ad) i cap)).run P w.drew=.ok xs.toArray w.drew:=run_firstCells_some w.drew r.size i ad i cap xs hl (fun j u hu=>(hs.drew.cell _).trans (bN j u hu));have WM:(Builtin.append_ #[t,ti] ty #[.slice (some ad) i cap,.int .i64 k]).run P w=.ok (.slice (some ⟨m.heap.size,0,none⟩) (i+k) (grownCap w (i+k) cap te)) w':=by
  simp [Builtin.append_,run_underlying hu,run_underlying SG,sizeOf,typeInfo,zeroValue,hi,yc,A7,asIntOf,Pb,FN,asInt,M6,T0,PT,G5,newRow,Question.forced,grownCap,xw,IT,←hs.size];rw [zX U0]
  congr 2
  simp only [zs]
  congr 2
  apply xO;simp [grownCap]
 simp [execOp,resolve,invoke,builtin,hf.ev hx,hf.ev hy,WM]
theorem RL.overlaps(hT:T.Ok P)(hS:Tr m0 M0 X m H){f:FuncId}{fn:Func}{fo:Operand}{xs':Array Operand}{ts:Array TypeId}{tS tR:TypeId}{b1 b2 o1 o2 la ca lb cb:Nat}{c1 c2:List Value}{t1 t2:TypeId}(hf:P.funcs[f]?=some fn)(Fx:(fn.name== "runtime.NumGoroutine")=false)
  (hb:fn.body.isNone=true)(hn:Extern.findNext fn=none)(hex:Extern.find fn=some (Extern.SlicesOverlaps.overlaps #[tS,tS] #[tR]))(he:T.elem tS=some (te,r))
  (hg:gd ops e ⟨d,.call ⟨.value fo,xs',ts⟩,ty,pos,aft,g⟩=some true)(nk:e.ev fo=some (.func (.func f) #[] #[]))(fI:e.kj xs'.toList=some [.slice (some ⟨b1,o1,none⟩) la ca,.slice (some ⟨b2,o2,none⟩) lb cb])
  (h1:ab b1 t1 c1∈H)(h2:ab b2 t2 c2∈H)(dP:b1≠b2)(jT:c2.length≠0)(hp:aQ n d (.bool false) e=some e')(h:RL P ops Q rest n e' D m):RL P ops Q (⟨d,.call ⟨.value fo,xs',ts⟩,ty,pos,aft,g⟩::rest) n e D m:=by
 obtain ⟨rt,dD,hk,hr,_,_,_⟩:=Ty.dK he;have hu:=(hT.row dD).k;rw [hk]at hu;refine RL.value (.bool false) hg (fun a w pf hs=>?_) hp h;have yw:bw m b1 t1 c1:=hS.mem h1;have pX:bw m b2 t2 c2:=hS.mem h2;have DT:w.heap[b1]?=some (.cells c1.toArray t1 (0,0)):=by rw [hs.heap];exact yw
 have jb:w.heap[b2]?=some (.cells c2.toArray t2 (0,0)):=by rw [hs.heap];exact pX
 have fO:=run_callFunc_extern hf Fx hb hn hex #[.slice (some ⟨b1,o1,none⟩) la ca,.slice (some ⟨b2,o2,none⟩) lb cb] w;rw [Lib.run_overlaps_apart w tS tR te hu r.size (fun W=>(hT.row hr).bX W) ⟨b1,o1,none⟩ ⟨b2,o2,none⟩ la ca lb cb dP t1 t2 c1.length c2.length (by simp [World.shape?,DT]) (by simp [World.shape?,jb]) jT (by simp [World.frozen?,DT]) (by simp [World.frozen?,DT])]at fO;have tO:xs'.map a.eval=#[.slice (some ⟨b1,o1,none⟩) la ca,.slice (some ⟨b2,o2,none⟩) lb cb]:=xO (by rw [xP];exact pf.kj fI);simp only [Result.andThen_ok]at fO;simp [execOp,resolve,pf.ev nk,Deferred.ofValue,invoke,tO,fO]
end
end Go.Ev
namespace Go.Proofs.YtgpgladbdoimdaaGreatDoor
open Go.RowKit Go.Ev
set_option maxHeartbeats 1000000
theorem GB{xs ys zs:List Value}{n i m:Nat}(hi:i≤n)(hx:xs.length=n*1)(hy:ys.length=m*1):
  ((((xs.take (i*1)++zs).take (i*1)++ys++(xs.take (i*1)++zs).drop (i*1+ys.length)).take ((i+m)*1)++xs.drop (i*1)++(((xs.take (i*1)++zs).take (i*1)++ys++(xs.take (i*1)++zs).drop (i*1+ys.length))).drop ((i+m)*1+(xs.drop (i*1)).length)).take ((n+m)*1))=xs.take (i*1)++ys++xs.drop (i*1):=by
 have h1:(xs.take (i*1)).length=i*1:=by rw [yA,hx];omega
 have h2:(xs.take (i*1)++zs).take (i*1)=xs.take (i*1):=by rw [tE h1]
 rw [h2];have h3:(xs.take (i*1)++ys++(xs.take (i*1)++zs).drop (i*1+ys.length)).take ((i+m)*1)=xs.take (i*1)++ys:=by
  rw [tE];rw [zY,h1,hy];omega
 rw [h3,tE];simp only [zY,h1,hy,zZ,hx];omega
theorem Ek{xs ys cur:List Value}{n i m:Nat}(hi:i≤n)(hx:cur.take (n*1)=xs)(hl:xs.length=n*1)(hy:ys.length=m*1)(hc:cur.length≥(n+m)*1):
  ((cur.take ((i+m)*1)++xs.drop (i*1)++cur.drop ((i+m)*1+(xs.drop (i*1)).length)).take (i*1)++ys++(cur.take ((i+m)*1)++xs.drop (i*1)++cur.drop ((i+m)*1+(xs.drop (i*1)).length)).drop (i*1+ys.length)).take ((n+m)*1)=xs.take (i*1)++ys++xs.drop (i*1):=by
 have h1:(cur.take ((i+m)*1)).length=(i+m)*1:=by rw [yA];omega
 have h2:(cur.take ((i+m)*1)++xs.drop (i*1)++cur.drop ((i+m)*1+(xs.drop (i*1)).length)).take (i*1)=xs.take (i*1):=by
  rw [wM,yE (by rw [h1];omega),tF,←hx,tF]
  congr 1;omega
 have h3:(cur.take ((i+m)*1)++xs.drop (i*1)++cur.drop ((i+m)*1+(xs.drop (i*1)).length)).drop (i*1+ys.length)=xs.drop (i*1)++cur.drop ((i+m)*1+(xs.drop (i*1)).length):=by
  rw [wM,List.drop_left'];rw [h1,hy];omega
 rw [h2,h3,←wM,tE];simp only [zY,yA,zZ,hl,hy];omega
set_option maxRecDepth 20000 in
theorem qq(v u:Value)(S S2:List Nat)(n i m:Nat)(xs ys:List Value)(hi:i≤n)(hm:0<m)(hb:n+m≤1000000)(h1:∀z∈xs,z.oneCell'=true)(h2:∀z∈ys,z.oneCell'=true):
  bu Tryz.prog 263 [v,.int .i64 i,u] [aF S 176 1 v n xs,aF S2 176 1 u m ys] (fun r H=>∃S',H=[aF S' 176 1 r (n+m) (xs.take (i*1)++ys++xs.drop (i*1))]):=by
 intro m0 X hS;have hx:xs.length=n*1:=(hS.mem (A:=aF S 176 1 v n xs) YA).1;have hy:ys.length=m*1:=(hS.mem (A:=aF S2 176 1 u m ys) YA).1;obtain ⟨A,c,rfl,ya⟩:=hS.shape;obtain ⟨B,c2,rfl,TH⟩:=Tr.shape (hS.perm (List.Perm.swap ..));refine aP.zA Tryz.func263 ?_;refine go ?_;refine RL.sliceFrom aa (l:=i) rfl rfl rfl rfl rfl hi rfl ?_;refine go ?_;refine WP.cond rfl (fun hc=>?_) (fun _=>?_)
 ·exact absurd hc J6
 refine go ?_;refine WP.cond rfl (fun hc=>?_) (fun hc=>?_)
 ·have hc:i=n:=Int.ofNat.inj (eq_of_beq hc);subst hc;refine go ?_;have iG:=(hS.perm (List.Perm.swap ..));have fQ:=hS.aW (t:=176) (sz:=1) (v:=.slice B m c2) (nn:=m) (xs:=ys) (S:=S2) YA;refine RL.dx aa hS (k:=m) ys rfl rfl rfl rfl rfl sY.head (Src.cS fQ) hy h2 Jy (wG (wP _ hb) J8) ?_;intro v' m' S' hS;refine ⟨_,rfl,?_⟩;refine go ?_;refine QN.aj rfl rfl ⟨_,rfl,[aF S' 176 1 v' (i+m) (xs++ys)],⟨S',by rw [←hx,wF,List.drop_length,vI]⟩,?_⟩;exact Tr.drop (F:=[aF S2 176 1 (.slice B m c2) m ys]) hS
 have mN:i<n:=by
  rcases xA i n with h|h
  ·exact h
  ·have:i=n:=by omega
   subst this;simp at hc
 obtain ⟨g,cap,cur,hv,rfl,Vz,kl,jW,CW,hS⟩:=hS.zj J9;cases hv;have hS:=hS.perm (List.Perm.swap ..);obtain ⟨g2,cap2,cur2,hv,rfl,WG,Vg,UY,Na,hS⟩:=hS.zj hm;cases hv;have hS:=hS.perm (List.Perm.swap ..);have dP:g2≠g:=fun hh=>by
  have:=hS.hold.nd;subst hh;simp [au,ab]at this
 have bN:∀j z,xs[j]?=some z→cur[j]?=some z:=fun j z hj=>by
  rw [←CW,xV]at hj
  split at hj
  ·exact hj
  ·cases hj
 have rU:∀j z,ys[j]?=some z→cur2[j]?=some z:=fun j z hj=>by
  rw [←Na,xV]at hj
  split at hj
  ·exact hj
  ·cases hj
 refine go ?_;have hw:IntKind.i64.wrap ((n:Int)+(m:Int))=((n+m:Nat):Int):=by rw [ag _ J9 J9];omega
 have jb:IntKind.i64.wrap ((i:Int)+(m:Int))=((i+m:Nat):Int):=by rw [ag _ J9 J9];omega
 have Xc:¬c=i:=by omega
 have Uh:i+m<n+m:=by omega
 have NP:(xs.drop (i*1)).length=(n-i)*1:=by rw [zZ,hx];omega
 refine WP.cond rfl (fun hc=>?_) (fun hc=>?_)
 ·have hc:c<n+m:=by rw [hw]at hc;have:=xS hc;omega
  refine go ?_;refine RL.sliceTo aa (l:=i) rfl rfl rfl rfl rfl J9 rfl ?_;refine go ?_;have RJ:IntKind.i64.wrap (IntKind.i64.wrap ((n:Int)+(m:Int))-(i:Int))=((n+m-i:Nat):Int):=by rw [hw,ag _ J9 J9];omega
  refine RL.pn aa hS (k:=n+m-i) rfl rfl (xs.take (i*1)) rfl rfl rfl RJ J9 J9 Jy (wG (wP _ J9) (show 1000000*_≤_ by decide)) (by rw [yA,hx];exact zR (wP _ hi)) ?_ ?_
  ·intro j z hj;rw [av,zU];refine bw.cell (hS.mem (A:=ab g 176 cur) YA) j (bN j z ?_);rw [xV]at hj
   split at hj
   ·exact hj
   ·cases hj
  intro b cap' zs m' iG hle N3 Gk;have Vy:=iG;have qv:b≠g∧b≠g2:=by
   have:=iG.hold.nd;simp [au,ab]at this;exact this.1
  clear hS;have hS:=iG;rw [show i+(n+m-i)=n+m by omega]at hle;refine ⟨_,rfl,?_⟩;rw [show i+(n+m-i)=n+m by omega];have N9:¬cap'=i:=by omega
  refine ah5 ?_;refine RL.eqv (v':=.slice (some ⟨b,i*1,none⟩) (n+m-i) (cap'-i)) (by rw [zX N9];simp [av]<;>rfl) ?_;refine go ?_;have Q2:(n+m)*1≤cap'*1:=wP _ hle;refine RL.pr aa hS ys rfl rfl rfl rfl (tb:=176) (cs:=xs.take (i*1)++zs) JQ JN JL ?_ (by rw [hy,Gk];show _≤cap'*1;omega) h2 rfl ?_
  ·intro j z hj;rw [av,zU];exact bw.cell (hS.mem (A:=ab g2 176 cur2) YA) j (rU j z hj)
  clear hS Vy iG;intro m1 hS;refine go ?_;refine RH.sliceFrom aa ai.calm 4 (l:=i+m) rfl J7 rfl rfl rfl rfl jb J9 rfl ?_;refine RH.eqv (v':=.slice (some ⟨b,(i+m)*1,none⟩) (n+m-(i+m)) (cap'-(i+m))) JW ?_;refine go ?_;refine RH.sliceFrom aa ai.calm 7 (l:=i) rfl J7 rfl rfl rfl rfl rfl J9 rfl ?_;refine RH.eqv (v':=.slice (some ⟨g,i*1,none⟩) (n-i) (c-i)) Je ?_;refine RH.only 8 rfl J7 (fun _=>?_);have pM:(i+m)*1+(xs.drop (i*1)).length≤((xs.take (i*1)++zs).take (i*1)++ys++(xs.take (i*1)++zs).drop (i*1+ys.length)).length:=by
   simp only [zY,yA,zZ,hy,hx]at Gk ⊢;have h9:min (i*1) (n*1)+zs.length=cap'*1:=Gk;omega
  have LX:Nat.min (n-i) (n+m-(i+m))=n-i:=zR J9;refine RL.pr aa hS (xs.drop (i*1)) rfl rfl rfl rfl (tb:=176) JQ JN (by rw [LX,NP]) ?_ pM (fun z hz=>h1 z (tD hz)) rfl ?_
  ·intro j z hj;rw [av];refine bw.cell (hS.mem (A:=ab g 176 cur) YA) _ (bN _ z ?_)
   rwa [vA]at hj
  intro m2 hS;refine ab9 ?_;refine YJ ?_;refine go ?_;have kd:(((xs.take (i*1)++zs).take (i*1)++ys++(xs.take (i*1)++zs).drop (i*1+ys.length)).take ((i+m)*1)++xs.drop (i*1)++(((xs.take (i*1)++zs).take (i*1)++ys++(xs.take (i*1)++zs).drop (i*1+ys.length))).drop ((i+m)*1+(xs.drop (i*1)).length)).length=cap'*1:=by
   simp only [zY,yA,zZ,hy,hx]at Gk ⊢;have h9:min (i*1) (n*1)+zs.length=cap'*1:=Gk;omega
  have hS:=hS.rF (nn:=n+m) (sz:=1) hle N3 kd;rw [GB hi hx hy]at hS;exact QN.aj rfl rfl ⟨_,rfl,_,⟨[b],rfl⟩,Tr.drop (H:=[_]) hS⟩
 ·have hc:n+m≤c:=by rw [hw]at hc;have:=vX hc;omega
  refine go ?_;refine RL.sliceTo aa (l:=n+m) rfl rfl rfl rfl hw J9 rfl ?_;refine go ?_;refine RL.sliceFrom aa (l:=i+m) rfl rfl rfl rfl jb J9 rfl ?_;refine RL.eqv (v':=.slice (some ⟨g,(i+m)*1,none⟩) (n+m-(i+m)) (c-(i+m))) JW ?_;have Zp:0<c*1:=Nat.mul_pos J9 J8;refine RL.overlaps aa hS (fn:=Tryz.f280) J7 J7 J7 J7 (tS:=172) (tR:=4) J7 rfl rfl rfl rfl (h1:=JQ) (h2:=JQ) dP J9 rfl ?_;refine go ?_;refine RH.sliceFrom aa ai.calm 4 (l:=i+m) rfl J7 rfl rfl rfl rfl jb J9 rfl ?_;refine RH.eqv (v':=.slice (some ⟨g,(i+m)*1,none⟩) (n+m-(i+m)) (c-(i+m))) JW ?_;refine go ?_;refine RH.sliceFrom aa ai.calm 7 (l:=i) rfl J7 rfl rfl rfl rfl rfl J9 rfl ?_;refine RH.eqv (v':=.slice (some ⟨g,i*1,none⟩) (n+m-i) (c-i)) Je ?_;refine RH.only 8 rfl J7 (fun _=>?_);have NC:cur.length≥(n+m)*1:=by rw [jW];exact wP _ hc
  have LX:Nat.min (n+m-i) (n+m-(i+m))=n-i:=Nat.min_eq_right J9|>.trans J9;refine RL.pr aa hS (xs.drop (i*1)) rfl rfl rfl rfl (tb:=176) JQ JN (by rw [LX,NP]) ?_ (by rw [NP];omega) (fun z hz=>h1 z (tD hz)) rfl ?_
  ·intro j z hj;rw [av];refine bw.cell (hS.mem (A:=ab g 176 cur) YA) _ (bN _ z ?_)
   rwa [vA]at hj
  intro m2 hS;refine ab9 ?_;refine YJ ?_;refine ah5 ?_;refine RL.eqv (v':=.slice (some ⟨g,i*1,none⟩) (n+m-i) (c-i)) Je ?_;refine go ?_;have sI:(cur.take ((i+m)*1)++xs.drop (i*1)++cur.drop ((i+m)*1+(xs.drop (i*1)).length)).length=c*1:=by
   simp only [zY,yA,zZ,hx];omega
  refine RL.pr aa hS ys rfl rfl rfl rfl (tb:=176) JQ JN JL ?_ (by rw [hy,sI];omega) h2 rfl ?_
  ·intro j z hj;rw [av,zU];exact bw.cell (hS.mem (A:=ab g2 176 cur2) YA) j (rU j z hj)
  intro m3 hS;refine go ?_;have hS:=hS.rF (nn:=n+m) (sz:=1) hc kl (by
   simp only [zY,yA,zZ,hy]at sI ⊢;omega)
  rw [Ek hi CW hx hy NC]at hS;exact QN.aj rfl rfl ⟨_,rfl,_,⟨[g],rfl⟩,Tr.drop (H:=[_]) hS⟩
open Go.Ids
structure Vl where
 k:Nat
 n:Int
 f:Nat
 s:List UInt8
def Vl.zero:Vl:=⟨0,0,0,[]⟩
def vC(v:Vl):List Value:=[.int .i64 v.k,.int .i64 v.n,.float .f64 v.f,.string (str v.s)]
def vV(v:Vl):Value:=.agg (vC v).toArray
def sO(f:Nat):Bool:=FloatKind.f64.format.order f f !=some .eq
def ef(f:Nat):Nat:=if sO f then 9221120237041090560 else f
def Vl.clean(v:Vl):Vl:={v with f:=ef v.f}
theorem Bi(f:Nat):FloatKind.f64.format.order f f=none∨FloatKind.f64.format.order f f=some .eq:=by
 unfold Ieee.Format.order;generalize FloatKind.f64.format.read f=x;cases x<;>simp [Ieee.Datum.order]
theorem qC:sO 0=false:=by decide+kernel
def Vl.Ok(v:Vl):Prop:=(v.k=0∧v.n=0∧v.f=0∧v.s=[])∨(v.k=5∧v.n=0∧v.f=0∧v.s=[])∨(v.k=1∧(v.n=0∨v.n=1)∧v.f=0∧v.s=[])∨(v.k=2∧v.f=0∧v.s=[])∨(v.k=3∧v.n=0∧v.s=[])∨
 (v.k=4∧v.n=0∧v.f=0∧v.s.length≤4096∧(aN v.s).isSome=true)
theorem Vl.Ok.clean{v:Vl}(h:v.Ok):v.clean.Ok:=by
 have h0:ef 0=0:=by simp [ef,qC]
 rcases h with⟨h1,h2,h3,h4⟩|⟨h1,h2,h3,h4⟩|⟨h1,h2,h3,h4⟩|⟨h1,h3,h4⟩|⟨h1,h2,h4⟩|⟨h1,h2,h3,h4⟩
 ·exact .inl ⟨h1,h2,by show ef v.f=0;rw [h3,h0],h4⟩
 ·exact .inr (.inl ⟨h1,h2,by show ef v.f=0;rw [h3,h0],h4⟩)
 ·exact .inr (.inr (.inl ⟨h1,h2,by show ef v.f=0;rw [h3,h0],h4⟩))
 ·exact .inr (.inr (.inr (.inl ⟨h1,by show ef v.f=0;rw [h3,h0],h4⟩)))
 ·exact .inr (.inr (.inr (.inr (.inl ⟨h1,h2,h4⟩))))
 ·exact .inr (.inr (.inr (.inr (.inr ⟨h1,h2,by show ef v.f=0;rw [h3,h0],h4⟩))))
structure sF where
 id:aL
 b:Bool
 deriving DecidableEq
structure a6 where
 id:aL
 k:Nat
 st:Nat
 l:aL
 r:aL
 t:List UInt8
 v:Vl
 key:List UInt8
 p:aL
 fr:sF
 to:sF
def oC(o:a6):List Value:=[.int .u64 o.id.c,.int .u64 o.id.k,.int .i64 o.k,.int .u64 o.st,.int .u64 o.l.c,.int .u64 o.l.k,.int .u64 o.r.c,.int .u64 o.r.k,.string (str o.t),.int .i64 o.v.k,.int .i64 o.v.n,.float .f64 o.v.f,.string (str o.v.s),.string (str o.key),.int .u64 o.p.c,.int .u64 o.p.k,
 .int .u64 o.fr.id.c,.int .u64 o.fr.id.k,.bool o.fr.b,.int .u64 o.to.id.c,.int .u64 o.to.id.k,.bool o.to.b]
def oV(o:a6):Value:=.agg (oC o).toArray
def O0:aL:=⟨0,0⟩
def a6.n(o:a6):Nat:=if o.k=1 then((aN o.t).getD []).length else 1
def named(i:aL):Bool:=decide (i=O0)||i.right
def a6.names(o:a6):List aL:=[o.l,o.r,o.fr.id,o.to.id,o.p]
def nY(k:List UInt8):Prop:=1≤k.length∧k.length≤64∧(aN k).isSome=true
def Pe(n:Nat):Prop:=1≤n∧n≤9007199254740991
structure Good(o:a6):Prop where
 id:o.id.right=true
 top:o.id.k+o.n≤9007199254740992
 names:∀i∈o.names,named i=true
 own:∀i∈o.names,¬(i.c=o.id.c∧o.id.k≤i.k∧i.k<o.id.k+o.n)
 kind:(o.k=1∧(aN o.t).isSome=true∧1≤o.n∧o.n≤4096∧o.st=0∧o.v=.zero∧o.key=[]∧o.p=O0∧o.fr=⟨O0,false⟩∧o.to=⟨O0,false⟩)∨
  (o.k=2∧o.v.Ok∧o.v.k≠5∧o.st=0∧o.t=[]∧o.key=[]∧o.p=O0∧o.fr=⟨O0,false⟩∧o.to=⟨O0,false⟩)∨
  (o.k=3∧o.v.Ok∧o.v.k≠5∧Pe o.st∧nY o.key∧o.t=[]∧o.l=O0∧o.r=O0∧o.p=O0)∨
  (o.k=4∧o.v.Ok∧Pe o.st∧nY o.key∧o.t=[]∧o.l=O0∧o.r=O0∧o.fr=⟨O0,false⟩∧o.to=⟨O0,false⟩)
 small:o.t.length≤1000000
theorem Good.gq{o:a6}(h:Good o):1≤o.n:=by
 rcases h.kind with⟨_,_,h,_⟩|⟨h,_⟩|⟨h,_⟩|⟨h,_⟩
 ·exact h
 all_goals simp [a6.n,h]
theorem Good.vq{o:a6}(h:Good o):o.n≤4096:=by
 rcases h.kind with⟨_,_,_,h,_⟩|⟨h,_⟩|⟨h,_⟩|⟨h,_⟩
 ·exact h
 all_goals simp [a6.n,h]
end Go.Proofs.YtgpgladbdoimdaaGreatDoor
namespace Go.Ev
open Go.RowKit
def Ff(b:Nat)(l:List UInt8)(pos:Nat):az where
 own:=[b]
 P:=fun m _=>m.heap[b]?=some (.stringIter (str l) pos)
 lt:=fun h k hk=>by
  have:k=b:=by simpa using hk
  subst this;exact (wI.1 h).1
 dC:=fun h hE hn _ _=>(hE.ej _ (wI.1 h).1 (hn _ YA)).trans h
theorem Ai{P:Program}{w:World}{b pos:Nat}{s:ByteArray}(ty:TypeId)(h:w.heap[b]?=some (.stringIter s pos))(hp:pos<s.size):
  (Instr.next (.pointer (some ⟨b,0,none⟩)) true ty).run P w=.ok (.tuple #[.bool true,.int .i64 pos,.int .i32 (Utf8.decode s pos).1]) (dB w b (.stringIter s (pos+(Utf8.decode s pos).2))):=by
 simp [Instr.next,getObj,setObj,Sem.run,h,hp,goInt,dB]
theorem rK{P:Program}{w:World}{b pos:Nat}{s:ByteArray}(ty:TypeId)(h:w.heap[b]?=some (.stringIter s pos))(hp:¬pos<s.size):
  (Instr.next (.pointer (some ⟨b,0,none⟩)) true ty).run P w=.ok (.tuple #[.bool false]) w:=by
 simp [Instr.next,getObj,Sem.run,h,hp]
section
variable{P:Program} {T:Ty} {ops:Array Oper} {Q:Exit→Act→World→Prop} {rest:List Oper} {n:Nat} {e e':Env} {D:Fr} {m0 m:World} {M0 X:List Nat} {H H':List az}
 {d:Option Tmp} {x y:Operand} {t ty:TypeId} {pos:String} {aft:Array Edge} {g:Option (Nat×Bool)} {l:List UInt8} {b p:Nat}
theorem RL.yi(hT:T.Ok P)(hS:Tr m0 M0 X m H)(ht:(T.row t).map (·.k)=some .str)(hg:gd ops e ⟨d,.range t x,ty,pos,aft,g⟩=some true)(hx:e.ev x=some (.string (str l)))
  (h:∀b m',Tr m0 M0 X m' (Ff b l 0::H)→∃e',aQ n d (.pointer (some ⟨b,0,none⟩)) e=some e'∧RL P ops Q rest n e' D m'):RL P ops Q (⟨d,.range t x,ty,pos,aft,g⟩::rest) n e D m:=by
 have hu:=isStr hT ht;have hC:=gD.alloc m (.stringIter (str l) 0);have iG:Tr m0 M0 X (m.alloc (.stringIter (str l) 0)) (Ff m.heap.size l 0::H):=hS.new (hC.new (yP _)) (fun k hk=>Nat.le_of_eq (show m.heap.size=k from(zT.1 hk).symm)) (by simp [Ff]) hC.here;obtain ⟨e',hp,hk⟩:=h _ _ iG;refine RL.fX _ _ hg (fun a w hf hs=>⟨_,?_,hs.alloc _⟩) hp hk;simp [execOp,hf.ev hx,Instr.range,run_underlying hu,hs.size]
theorem RL.C2(hS:Tr m0 M0 X m H)(hg:gd ops e ⟨d,.next x true,ty,pos,aft,g⟩=some true)(hx:e.ev x=some (.pointer (some ⟨b,0,none⟩)))(aM:p<l.length)(hr:kq (Ff b l p) (Ff b l (p+(Utf8.decode (str l) p).2)) H H')
  (hp:aQ n d (.tuple #[.bool true,.int .i64 p,.int .i32 (Utf8.decode (str l) p).1]) e=some e')(h:∀m',Tr m0 M0 X m' H'→RL P ops Q rest n e' D m'):RL P ops Q (⟨d,.next x true,ty,pos,aft,g⟩::rest) n e D m:=by
 obtain ⟨F,h1,h2⟩:=hr.perms;have hb:m.heap[b]?=some (.stringIter (str l) p):=(hS.perm h1).head;have hC:=gD.dB hb (.stringIter (str l) (p+(Utf8.decode (str l) p).2));have iG:=((hS.perm h1).gG (A:=Ff b l p) (B:=Ff b l (p+(Utf8.decode (str l) p).2)) (by simpa [Ff]using hC.ext) rfl hC.here).perm h2;refine RL.fX _ _ hg (fun a w hf hs=>⟨_,?_,hs.dB b _⟩) hp (h _ iG);have:=Ai (P:=P) ty (show w.heap[b]?=some (.stringIter (str l) p) by rw [hs.heap];exact hb) (by simpa [bV]using aM);simp [execOp,hf.ev hx,this]
theorem RL.Dd(hS:Tr m0 M0 X m H)(hg:gd ops e ⟨d,.next x true,ty,pos,aft,g⟩=some true)(hx:e.ev x=some (.pointer (some ⟨b,0,none⟩)))(aM:l.length≤p)(hm:Ff b l p∈H)
  (hp:aQ n d (.tuple #[.bool false]) e=some e')(h:RL P ops Q rest n e' D m):RL P ops Q (⟨d,.next x true,ty,pos,aft,g⟩::rest) n e D m:=by
 have hb:m.heap[b]?=some (.stringIter (str l) p):=hS.mem hm;refine RL.value _ hg (fun a w hf hs=>?_) hp h;have:=rK (P:=P) ty (show w.heap[b]?=some (.stringIter (str l) p) by rw [hs.heap];exact hb) (by rw [bV];omega);simp [execOp,hf.ev hx,this]
end
section
variable{P:Program} {ops:Array Oper} {Q:Exit→Act→World→Prop} {J:World→Prop} {fin:List Nat} {fuel n:Nat} {listed:Array Bool} {e:Env} {D:Fr} {m:World}
theorem RF.each{is:List Nat}(dP:is≠[])(hr:Region.ready .any ops listed=is)(h:∀i∈is,∃o,ops[i]?=some o∧RL P ops (Exit.then (iK D.ro P ops Q J fin i fuel (listed.setIfInBounds i true)) Q) [o] n e D m):RF P ops Q J fin (fuel+1) listed n e D m:=by
 intro a w hf hw;refine qy hr dP (fun i hG=>?_);obtain ⟨o,hi,h0⟩:=h i hG;have h1:=h0 a w hf hw;unfold wpOpIn;simp only [hi];unfold wpListIn at h1
 split
 ·rename_i HM;rw [yS HM]at h1;refine ⟨fun _ _=>trivial,?_⟩;have h1:=h1.2;change Oper.uponIn (bJ D.ro) 0 P o a _ _ ((Oper.semAt (bJ D.ro).round a.eval o).run P w)at h1;generalize (Oper.semAt (bJ D.ro).round a.eval o).run P w=r at*;cases r with
  |ok x w'=>
   cases x<;>simp only [Oper.uponIn]at h1 ⊢
   case value u=>exact h1
   case skip=>exact h1
   case defer d=>exact h1
   case enter f args=>
    refine ⟨h1.1,CallsIn.mono h1.2 fun e w'' he=>?_⟩;cases e with
    |returned u=>exact he
    |panicked c=>exact he
    |outgrown=>obtain ⟨a0,w0,h2⟩:=he;exact ⟨a0,w0,h2⟩
   case row row args=>exact ⟨h1.1,RowsIn.mono h1.2 fun u w'' he=>he⟩
   case round l f tmps assign body=>
    refine ⟨h1.1,RoundIn.mono h1.2 fun e w'' he=>?_⟩;cases e with
    |returned u=>exact he
    |panicked c=>exact he
    |outgrown=>obtain ⟨a0,w0,h2⟩:=he;exact ⟨a0,w0,h2⟩
  |halt x w'=>
   cases x<;>simp only [Oper.uponIn]at h1 ⊢
   case panic u=>exact h1
 ·rename_i HM;rw [zX HM]at h1;exact ⟨fun _ _=>trivial,h1.2⟩
theorem RH.two{i j:Nat}{o o':Oper}(_:hY ops listed.toList=[i,j])(hr:Region.ready .any ops listed=[i,j])(hi:ops[i]?=some o)(hj:ops[j]?=some o')
  (h1:RL P ops (Exit.then (iK D.ro P ops Q J fin i fuel (listed.setIfInBounds i true)) Q) [o] n e D m)(h2:RL P ops (Exit.then (iK D.ro P ops Q J fin j fuel (listed.setIfInBounds j true)) Q) [o'] n e D m):RH P ops Q J fin (fuel+1) listed n e D m:=
 fun a w hf hw _=>RF.each YA hr (fun k hk=>by
  simp only [yH,uT,uU]at hk;rcases hk with rfl|rfl
  ·exact ⟨o,hi,h1⟩
  ·exact ⟨o',hj,h2⟩) a w hf hw
theorem WP.KK{x y:Code}{X:Type}(E:X→Env)(I:X→World→Prop)(h1:WP P x (Exit.then (fun a w=>∃x' m',Fits n (E x') D a∧bS m' w∧I x' m') Q) n e D m)
  (h2:∀x' m',I x' m'→WP P y Q n (E x') D m'):WP P x (Exit.then (fun a w=>y.wpIn (bJ D.ro) 0 P Q a w) Q) n e D m:=by
 intro a w hf hw;refine wpIn_mono (h1 a w hf hw) fun ex a' w' hq=>?_
 cases ex with
 |normal=>obtain ⟨x',m',NZ,OB,hI⟩:=hq;exact h2 x' m' hI a' w' NZ OB
 |exit id=>exact hq
 |goto l=>exact hq
 |ret=>exact hq
 |panic ch=>exact hq
 |outgrown=>exact hq
end
section
variable{κ:Type} [DecidableEq κ] {enc:κ→Value} {Lv:World→κ→Prop} {P:Program} {T:Ty} {ops:Array Oper} {Q:Exit→Act→World→Prop} {l rest:List Oper} {n:Nat} {e e':Env} {D:Fr} {m0 m m':World} {M0 X:List Nat} {H H' F L:List az}
 {d:Option Tmp} {x y z:Operand} {t ty kt et:TypeId} {pos:String} {aft:Array Edge} {g:Option (Nat×Bool)} {v u:Value} {rt re:Row} {fin:List Nat} {fuel:Nat} {listed:Array Bool} {r it c:Nat} {es:List (κ×Value)} {k:κ} {lst:Option (κ×Value)}
def td(Lv:World→κ→Prop)(k:κ)(es:List (κ×Value))(m:World):Prop:=∀w,bS m w→Lv w k∧∀p∈es,Lv w p.1
theorem RL.xh(hT:T.Ok P)(K:pQ P kt enc Lv){ok:Bool}(hg:gd ops e ⟨d,.lookup t x y ok,ty,pos,aft,g⟩=some true)(dD:T.row t=some rt)(hk:rt.k=.map kt et)(HI:T.row et=some re)
  (hx:e.ev x=some (.map (some r)))(hy:e.ev y=some (enc k))(hM:iL m r enc es)(hl:td Lv k es m)(hv:(if ok then .tuple #[(bj es k).getD re.zero,.bool (bj es k).isSome]else(bj es k).getD re.zero)=v)(hp:aQ n d v e=some e')
  (h:RL P ops Q rest n e' D m):RL P ops Q (⟨d,.lookup t x y ok,ty,pos,aft,g⟩::rest) n e D m:=by
 have hu:=(hT.row dD).k;rw [hk]at hu;refine RL.value v hg (fun a w hf hs=>?_) hp h;have h1:=jM K hu (fun w=>(hT.row HI).gW w) hM hs k (hl w hs).1 (hl w hs).2 ok;rw [hv]at h1;simp [execOp,hf.ev hx,hf.ev hy,h1]
theorem RH.xh{J:World→Prop}(hT:T.Ok P)(hQ:ai Q)(K:pQ P kt enc Lv){i:Nat}{ok:Bool}(_:gP GS ops fin listed.toList (hY ops listed.toList)=some i)(hB:(be ops&&bq ops fin listed [i])=true)(hi:ops[i]?=some ⟨d,.lookup t x y ok,ty,pos,aft,g⟩)(hg:gd ops e ⟨d,.lookup t x y ok,ty,pos,aft,g⟩=some true)(dD:T.row t=some rt)(hk:rt.k=.map kt et)(HI:T.row et=some re)
  (hx:e.ev x=some (.map (some r)))(hy:e.ev y=some (enc k))(hJ:∀m',J m'→iL m' r enc es∧td Lv k es m')(hv:(if ok then .tuple #[(bj es k).getD re.zero,.bool (bj es k).isSome]else(bj es k).getD re.zero)=v)(hp:aQ n d v e=some e')
  (h:RH P ops Q J fin fuel (listed.setIfInBounds i true) n e' D m):RH P ops Q J fin (fuel+1) listed n e D m:=by
 have hu:=(hT.row dD).k;rw [hk]at hu;simp only [bq,wR,wY]at hB;refine RH.take hi hB.1 hB.2.1 hB.2.2 hQ (fun a hf=>.inl ⟨cZ hf hg,fun w ⟨m',hs,hj⟩=>?_⟩) hp h;obtain ⟨hM,hl⟩:=hJ m' hj;have h1:=jM K hu (fun w=>(hT.row HI).gW w) hM hs k (hl w hs).1 (hl w hs).2 ok;rw [hv]at h1;simp [execOp,hf.ev hx,hf.ev hy,h1]
theorem RL.Ct(hT:T.Ok P)(hS:Tr m0 M0 X m H)(K:pQ P kt enc Lv)(hg:gd ops e ⟨d,.mapUpdate t x y z,ty,pos,aft,g⟩=some true)(dD:T.row t=some rt)(hk:rt.k=.map kt et)
  (hx:e.ev x=some (.map (some r)))(hy:e.ev y=some (enc k))(hz:e.ev z=some v)(hm:mapA r enc es∈H)(hr:kq (mapA r enc es) (mapA r enc (cI es k v)) H H')(hl:td Lv k es m)(hp:aQ n d undef e=some e')
  (h:∀m',Tr m0 M0 X m' H'→RL P ops Q rest n e' D m'):RL P ops Q (⟨d,.mapUpdate t x y z,ty,pos,aft,g⟩::rest) n e D m:=by
 have hu:=(hT.row dD).k;rw [hk]at hu;obtain ⟨m',o,hC,hM,hw⟩:=l0 K hu (hS.mem hm) k v;refine RL.Cy m' hg (fun a w hf hs=>?_) hp (h m' (hS.Cn hr hC hM));obtain ⟨w',h1,h2⟩:=hw w hs (hl w hs).1 (hl w hs).2;exact ⟨w',by simp [execOp,hf.ev hx,hf.ev hy,hf.ev hz,h1],h2⟩
def PU(m:World)(r it:Nat)(enc:κ→Value)(es:List (κ×Value))(c:Nat)(lst:Option (κ×Value)):Prop:=
 ∃(l:List MapEntry) (clock:Nat) (seen:Array Nat),m.heap[r]?=some (.map l.toArray clock)∧kr enc l es∧(es.map Prod.fst).Nodup∧(l.map (·.born)).Nodup∧(∀e∈l,e.born<clock)∧
  m.heap[it]?=some (.mapIter (some r) clock seen clock)∧(leftOf l.toArray seen).size=c∧∀p,lst=some p→∃e∈l,e.key=enc p.1∧e.val=p.2∧seen.back?=some e.born
def fw(r it:Nat)(enc:κ→Value)(es:List (κ×Value))(c:Nat)(lst:Option (κ×Value)):az where
 own:=[r,it]
 P:=fun m _=>PU m r it enc es c lst
 lt:=fun⟨_,_,_,h,_,_,_,_,h',_⟩ k hk=>by
  rcases yH.1 hk with rfl|hk
  ·exact (wI.1 h).1
  ·have:k=it:=by simpa using hk
   subst this;exact (wI.1 h').1
 dC:=fun⟨l,c,seen,h,h1,h2,h3,h4,h',h5⟩ hE hn _ _=>⟨l,c,seen,(hE.ej r (wI.1 h).1 (hn r YA)).trans h,h1,h2,h3,h4,(hE.ej it (wI.1 h').1 (hn it YA)).trans h',h5⟩
omit[DecidableEq κ]in
theorem PU.map(h:PU m r it enc es c lst):iL m r enc es:=by
 obtain ⟨l,clock,seen,h,h1,h2,h3,h4,_⟩:=h;exact ⟨l,clock,h,h1,h2,h3,h4⟩
omit[DecidableEq κ]in
theorem RL.rangeMap(hT:T.Ok P)(hS:Tr m0 M0 X m (mapA r enc es::H))(hg:gd ops e ⟨d,.range t x,ty,pos,aft,g⟩=some true)(dD:T.row t=some rt)(hk:rt.k=.map kt et)(hx:e.ev x=some (.map (some r)))
  (h:∀b m',Tr m0 M0 X m' (fw r b enc es es.length none::H)→∃e',aQ n d (.pointer (some ⟨b,0,none⟩)) e=some e'∧RL P ops Q rest n e' D m'):RL P ops Q (⟨d,.range t x,ty,pos,aft,g⟩::rest) n e D m:=by
 have hu:=(hT.row dD).k;rw [hk]at hu;obtain ⟨l,clock,hr,he,hn,hb,hc⟩:=hS.head;have hC:=gD.alloc m (.mapIter (some r) clock #[] clock);have aM:=(wI.1 hr).1;have iG:Tr m0 M0 X (m.alloc (.mapIter (some r) clock #[] clock)) (fw r m.heap.size enc es es.length none::H):=by
  have hlen:l.length=es.length:=by have:=xZ List.length he;simpa using this
  have OE:(m.alloc (.mapIter (some r) clock #[] clock)).heap[r]?=some (.map l.toArray clock):=(hC.ej r J9).trans hr;have qv:=hS.hold.nd;refine hS.step (A:=mapA r enc es) (B:=fw r m.heap.size enc es es.length none) ((hC.new (yP _)).mono YA) (fun k hk=>?_) ?_ (fun k hk mN=>?_) ⟨l,clock,#[],OE,he,hn,hb,hc,hC.here,?_,fun p hp=>by cases hp⟩
  ·rcases yH.1 hk with rfl|hk
   ·exact .inl (by simp [mapA])
   ·exact .inr (Nat.le_of_eq (zT.1 hk).symm)
  ·simp [fw];omega
  ·rcases yH.1 hk with rfl|hk
   ·have hd:=yN.1 (aS (mapA k enc es) H▸qv);rcases yL.1 mN with h1|h1
    ·exact hd.2.2 k (by simp [mapA]) k h1 rfl
    ·exact hS.hold.out k (by simp [au,mapA]) h1
   ·have e:k=m.heap.size:=zT.1 hk;subst e;rcases yL.1 mN with h1|h1
    ·exact Nat.lt_irrefl _ (hS.hold.lt _ (by rw [aS];exact yX _ h1))
    ·have:=hS.CX _ h1;have:=hS.ext.size;omega
  ·simp only [leftOf,←hlen];simp [List.filter_eq_self.2]
 obtain ⟨e',hp,hk⟩:=h _ _ iG;refine RL.fX _ _ hg (fun a w hf hs=>⟨_,?_,hs.alloc _⟩) hp hk;have hw:(getObj r).run P w=.ok (.map l.toArray clock) w:=fR (by rw [hs.heap];exact hr);simp [execOp,hf.ev hx,Instr.range,run_underlying hu,hw,hs.size]
omit[DecidableEq κ]in
theorem Lu{l:List MapEntry}(he:kr enc l es){x:MapEntry}(hx:x∈l):∃p∈es,x.key=enc p.1∧x.val=p.2:=by
 have h1:(x.key,x.val)∈l.map (fun e=>(e.key,e.val)):=vE.2 ⟨x,hx,rfl⟩;unfold kr at he;rw [he]at h1;obtain ⟨p,hp,e⟩:=vE.1 h1;simp only [yK]at e;exact ⟨p,hp,e.1.symm,e.2.symm⟩
omit[DecidableEq κ]in
theorem Es{P:Program}{w:World}{r:Nat}{i0:Option Nat}{i1 i3:Nat}{i2:Array Nat}(o:Obj)(h:w.heap[r]?=some (.mapIter i0 i1 i2 i3)):(setObj r o).run P w=.ok () {w with heap:=w.heap.setIfInBounds r o}:=by simp [setObj,Sem.run,h]
omit[DecidableEq κ]in
theorem RL.LO(hS:Tr m0 M0 X m (fw r it enc es c lst::H))(hg:gd ops e ⟨d,.next x false,ty,pos,aft,g⟩=some true)(hx:e.ev x=some (.pointer (some ⟨it,0,none⟩)))
  (h0:c=0→Tr m0 M0 X m (fw r it enc es c lst::H)→∃e',aQ n d (.tuple #[.bool false]) e=some e'∧RL P ops Q rest n e' D m)
  (h1:∀p∈es,∀c' m',c'<c→Tr m0 M0 X m' (fw r it enc es c' (some p)::H)→∃e',aQ n d (.tuple #[.bool true,enc p.1,p.2]) e=some e'∧RL P ops Q rest n e' D m'):RL P ops Q (⟨d,.next x false,ty,pos,aft,g⟩::rest) n e D m:=by
 obtain ⟨l,clock,seen,hr,he,hn,hb,hc,hi,hl,QW⟩:=hS.head;refine RL.AL hg fun a w hf hs=>?_
 have iQ:(getObj r).run P w=.ok (.map l.toArray clock) w:=fR (by rw [hs.heap];exact hr);have hG:(getObj it).run P w=.ok (.mapIter (some r) clock seen clock) w:=by simp [getObj,Sem.run,hs.heap,hi]
 have e1:(leftOf l.toArray seen).filter (fun x=>decide (x.born<clock))=leftOf l.toArray seen:=Array.filter_eq_self.2 (fun x hx=>by
  have:=(Array.mem_filter.1 hx).1
  simpa using hc x (by simpa using this))
 have e2:(leftOf l.toArray seen).filter (fun x=>decide (x.born≥clock))=#[]:=by
  rw [Array.filter_eq_empty_iff];intro x hx;have:=hc x (by simpa using(Array.mem_filter.1 hx).1);simp;omega
 have e3:(!seen.isEmpty&&!l.toArray.isEmpty&&l.toArray.all (fun x=>decide (x.born≥clock)))=false:=next_test_false seen l.toArray clock clock (fun x hx=>hc x (by simpa using hx)) (yP _);have key:((leftOf l.toArray seen).size=0∧(Instr.next (.pointer (some ⟨it,0,none⟩)) false ty).run P w=.ok (.tuple #[.bool false]) w)∨
   ∃x∈(leftOf l.toArray seen).toList,∃w1:World,(w1=w∨w1=w.drew)∧(Instr.next (.pointer (some ⟨it,0,none⟩)) false ty).run P w=.ok (.tuple #[.bool true,x.key,x.val]) (dB w1 it (.mapIter (some r) clock (seen.push x.born) clock)):=by
  unfold leftOf at e1 e2 ⊢;simp only [Instr.next,Sem.run_bind,hG,Result.andThen_ok,iQ,e3,wC,wE,e1,e2,Array.append_empty];generalize Array.filter (fun e=>!seen.contains e.born) l.toArray=L
  by_cases h0:L.size=0
  ·left;have:L=#[]:=Array.eq_empty_of_size_eq_zero h0;subst this;refine ⟨rfl,?_⟩;simp [choose,Sem.run,Question.forced]
  ·right;have dP:L.isEmpty=false:=by simp [Array.isEmpty,h0]
   simp only [dP,wC,wE,Array.empty_append,Array.size_map];have Wm:∃(j:Nat) (w1:World),j<L.size∧(w1=w∨w1=w.drew)∧(choose (Question.mapNext L.size)).run P w=.ok j w1:=by
    by_cases hf:L.size≤1
    ·exact ⟨0,w,J9,.inl rfl,by simp [choose,Sem.run,Question.forced,hf]⟩
    ·exact ⟨_,w.drew,vP _ J9,.inr rfl,by
      simp only [choose,Sem.run,Question.forced,vY,hf,wE,Question.cut];rfl⟩
   obtain ⟨j,w1,hj,Bz,kE⟩:=Wm;refine ⟨L[j],YA,w1,Bz,?_⟩;have DT:w1.heap[it]?=some (.mapIter (some r) clock seen clock):=by rcases Bz with rfl|rfl<;>simpa [World.drew,hs.heap]using hi
   simp only [kE,Array.getElem?_map,Array.getElem?_eq_getElem hj,uS,Sem.run_bind,Es _ DT,Result.andThen_ok];simp [Ev.dB]
 rcases key with⟨hz,kE⟩|⟨x,QL,w1,DT,kE⟩
 ·obtain ⟨e',hp,hk⟩:=h0 (hl.symm.trans hz) hS;exact ⟨.value (.tuple #[.bool false]),w,by simp [execOp,hf.ev hx,kE],(fun _ hh=>by cases hh),hk _ w (hf.put hp) hs⟩
 ·obtain ⟨qa,fI⟩:=mem_left QL;have QX:x∈l:=by simpa using qa
  obtain ⟨p,hp,XH,W9⟩:=Lu he QX;have hC:=gD.dB hi (.mapIter (some r) clock (seen.push x.born) clock);have dP:r≠it:=fun hh=>by
   have:=hS.hold.nd;subst hh;simp [au,fw]at this
  have iG:Tr m0 M0 X (dB m it (.mapIter (some r) clock (seen.push x.born) clock)) (fw r it enc es (leftOf l.toArray (seen.push x.born)).size (some p)::H):=
   hS.gG (A:=fw r it enc es c lst) (B:=fw r it enc es _ (some p)) ((by simpa using hC.ext:Ext m [it] _).mono (by simp [fw])) rfl
    ⟨l,clock,seen.push x.born,(hC.ej r dP).trans hr,he,hn,hb,hc,hC.here,rfl,fun q hq=>by cases hq;exact ⟨x,QX,XH,W9,YA⟩⟩
  obtain ⟨e',Bb,hk⟩:=h1 p hp _ _ (by rw [←hl];exact left_shrinks _ _ x QL) iG;refine ⟨.value (.tuple #[.bool true,enc p.1,p.2]),dB w1 it (.mapIter (some r) clock (seen.push x.born) clock),by rw [←XH,←W9];simp [execOp,hf.ev hx,kE],(fun _ hh=>by cases hh),hk _ _ (hf.put Bb) ?_⟩;have qo:bS m w1:=by
   rcases DT with rfl|rfl
   ·exact hs
   ·exact hs.drew
  exact qo.dB it _
omit[DecidableEq κ]in
theorem RL.Ic(hS:Tr m0 M0 X m H){p:κ×Value}(hg:gd ops e ⟨d,.entry x,ty,pos,aft,g⟩=some true)(hx:e.ev x=some (.pointer (some ⟨it,0,none⟩)))(hm:fw r it enc es c (some p)∈H)
  (hp:aQ n d (.tuple #[enc p.1,p.2]) e=some e')(h:RL P ops Q rest n e' D m):RL P ops Q (⟨d,.entry x,ty,pos,aft,g⟩::rest) n e D m:=by
 obtain ⟨l,clock,seen,hr,he,hn,hb,hc,hi,hl,QW⟩:=hS.mem hm;obtain ⟨z,hz,hk,hv,hbk⟩:=QW p rfl;refine RL.value _ hg (fun a w hf hs=>?_) hp h;have iQ:(getObj r).run P w=.ok (.map l.toArray clock) w:=fR (by rw [hs.heap];exact hr);have hG:(getObj it).run P w=.ok (.mapIter (some r) clock seen clock) w:=by simp [getObj,Sem.run,hs.heap,hi]
 have VA:l.toArray.find? (·.born==z.born)=some z:=by rw [←Array.find?_toList];exact find_born z l hb hz
 have:(Instr.entry (.pointer (some ⟨it,0,none⟩))).run P w=.ok (.tuple #[z.key,z.val]) w:=by
  simp only [Instr.entry,Sem.run_bind,hG,Result.andThen_ok,hbk,iQ,bne_self_eq_false,wC,wE,VA];rfl
 rw [←hk,←hv];simp [execOp,hf.ev hx,this]
def dS(o:Option Nat):Value:=.pointer (o.map fun b=>⟨b,0,none⟩)
def EH(w:World)(o:Option Nat):Prop:=∀b,o=some b→∃(c:Array Value) (t:TypeId),w.heap[b]?=some (.cells c t (0,0))
theorem VE{te:TypeId}{j:TypeInfo}(hu:P.underlying kt=some (.pointer te))(Ti:P.info? te=some j)(hz:j.size≠0):pQ P kt dS EH where
 desc:=⟨_,hu,.inr fun a b=>rfl⟩
 eq:=fun a b w ha hb=>by
  have h:∀n:Nat,(Op.equalIn (n+1) kt (dS a) (dS b)).run P w=.ok (decide (a=b)) w:=fun n=>by
   cases a with
   |none=>cases b<;>simp [dS,Op.equalIn,run_underlying hu]
   |some a=>
    cases b with
    |none=>simp [dS,Op.equalIn,run_underlying hu]
    |some b=>
     obtain ⟨ca,ta,ha⟩:=ha a rfl;obtain ⟨cb,tb,hb⟩:=hb b rfl
     by_cases sM:a=b
     ·subst sM;simp [dS,Op.equalIn,run_underlying hu,sizeOf,typeInfo,Ti,run_sameAddr_same]
     ·have dP:(⟨a,0,none⟩:Addr)≠⟨b,0,none⟩:=fun hh=>sM (xZ Addr.block hh)
      simp [dS,Op.equalIn,run_underlying hu,sizeOf,typeInfo,Ti,hz,sM,run_sameAddr_other w dP ha hb]
  simp only [Op.equal,Op.maxDepth];exact h 9999
 Lw:=fun z a w=>by
  rw [show(10000:Nat)=9999+1 from rfl];unfold Instr.checkKey;simp only [Sem.run_bind,run_underlying hu,Result.andThen_ok,Sem.run_pure]
 bits:=fun a=>by cases a<;>simp [Instr.sameBits,dS]
theorem EH.fc{m:World}{b:Nat}{t:TypeId}{cs:List Value}(h:bw m b t cs):∀w,bS m w→EH w (some b):=fun w hs b' hb=>by
 cases hb;exact ⟨_,_,by rw [hs.heap];exact h⟩
end
def FW{X:Type}(E:X→Env)(Ds:X→List Deferred)(ro:Option Nat)(I:X→World→Prop)(μ:X→Nat)(n:Nat)(x:X)(a:Act)(w:World):Prop:=
 ∃x' m',Fits n (E x') ⟨Ds x',ro⟩ a∧bS m' w∧I x' m'∧μ x'<μ x
section
variable{P:Program} {Q:Exit→Act→World→Prop} {c:Code} {n:Nat} {e:Env} {m:World} {ro:Option Nat} {ds:List Deferred}
theorem WP.QH{X:Type}(E:X→Env)(Ds:X→List Deferred)(I:X→World→Prop)(μ:X→Nat)(x0:X)(hd:Ds x0=ds)(hs:Sub (E x0) e)(h0:I x0 m)
  (round:∀x m,I x m→WP P c (Exit.then (FW E Ds ro I μ n x) Q) n (E x) ⟨Ds x,ro⟩ m):WP P (.loop c) Q n e ⟨ds,ro⟩ m:=by
 subst hd;intro a w hf hw b k cs Vq hb hr;have key:∀(k':Nat) (x:X) (a:Act) (w m:World),μ x=k'→Fits n (E x) ⟨Ds x,ro⟩ a→bS m w→I x m→
   ∃ex a' w',Q ex a' w'∧ArrivesIn (Machine.fenced P (bJ ro)) P (lone (b.atR a (.code c::.inLoop c::k)) cs w) b k cs ex a' w':=by
  intro k'
  induction k' using Nat.strongRecOn with
  |_ k' ih=>
   intro x a w m hk VR HM hI;obtain ⟨ex,a₁,w₁,hq,iB⟩:=round x m hI a w VR HM b (.inLoop c::k) cs Vq hb hr;cases ex with
   |normal=>
    obtain ⟨x',m',NZ,OB,KW,aM⟩:=hq;obtain ⟨e₂,a₂,w₂,hq₂,harr₂⟩:=ih (μ x') (hk▸aM) x' a₁ w₁ m' rfl NZ OB KW;exact ⟨e₂,a₂,w₂,hq₂,.of_steps (StepsIn.trans iB (.one (fenced_calm hb hr rfl) stepR_inLoop)) harr₂⟩
   |exit id=>exact ⟨_,a₁,w₁,hq,.pass (x:=.inLoop c) rfl (fun _ _=>.inl YA) iB⟩
   |goto l=>exact ⟨_,a₁,w₁,hq,.pass (x:=.inLoop c) rfl (fun _ _=>.inl YA) iB⟩
   |ret=>exact ⟨_,a₁,w₁,hq,.pass (x:=.inLoop c) rfl (fun _ _=>.inl YA) iB⟩
   |panic ch=>exact ⟨_,a₁,w₁,hq,.pass (x:=.inLoop c) rfl (fun _ _=>.inl YA) iB⟩
   |outgrown=>exact ⟨_,a₁,w₁,hq,.pass (x:=.inLoop c) rfl (fun _ _=>.inl YA) iB⟩
 obtain ⟨ex,a',w',hq,iB⟩:=key _ x0 a w m rfl (hf.sub hs) hw h0;exact ⟨ex,a',w',hq,.of_steps (.one (fenced_calm hb hr rfl) stepR_loop) iB⟩
theorem QN.Ib{X:Type}{E:X→Env}{Ds:X→List Deferred}{I:X→World→Prop}{μ:X→Nat}{x:X}(x':X)(hd:Ds x'=ds)(hs:Sub (E x') e)(hI:I x' m)(aM:μ x'<μ x):
  QN (Exit.then (FW E Ds ro I μ n x) Q) .normal n e ⟨ds,ro⟩ m:=fun _ _ hf hw=>⟨x',m,by rw [hd];exact hf.sub hs,hw,hI,aM⟩
def marks(Bs:List (Nat×Loop)):List Deferred:=Bs.map fun b=>{target:=.collected b.1,args:=#[]}
def FZ(Bs:List (Nat×Loop)):List az:=Bs.map fun b=>lJ b.1 b.2
theorem QN.Ko{fn:Func}{post:Ending→World→Prop}{m0:World}{M0 X:List Nat}{H:List az}{Bs:List (Nat×Loop)}{r:Value}{x:Exit}(hx:x=.ret∨x=.normal)(hS:Tr m0 M0 X m (FZ Bs++H))
  (h:∀m',Tr m0 M0 X m' H→bY P fn n e ⟨marks Bs,none⟩ m' r∧post (.returned r) m'):QN (oE P fn post) x n e ⟨marks Bs,none⟩ m:=by
 intro a w hf hs;have key:∀(Cs:List (Nat×Loop)) (m w:World),bS m w→Tr m0 M0 X m (FZ Cs++H)→LeavesInM Fence.wide 0 P fn a.tmps (fun e w'=>∃m',bS m' w'∧post e m') (marks Cs) .returning w:=by
  intro Cs
  induction Cs with
  |nil=>
   intro m w hs hS;obtain ⟨h1,h2⟩:=h m hS;exact ⟨r,h1 a _ hf hs,_,hs,h2⟩
  |cons b Cs ih=>
   intro m w hs hS;have hk:=(Tr.my (F:=[]) hS).1;have Qm:w.heap[b.1]?=some (.deferred (some [])):=by rw [hs.heap];exact hk
   exact ⟨YA,.inl ⟨b.1,_,rfl,run_takeDeferred Qm,ih (m.putObj b.1 (.deferred none)) _ (hs.putObj _ _) hS.leave⟩⟩
 have k:=key Bs m w hs hS;have hd:a.defers=marks Bs:=hf.defers;rw [←hd]at k;rcases hx with rfl|rfl
 ·exact k
 ·exact k
theorem bY.none{fn:Func}{D:Fr}(hr:fn.results=#[]):bY P fn n e D m (.tuple #[]):=fun a w _ _=>results_none hr a.tmps P w
end
end Go.Ev
