/- Texts that belong together. -/
import Derived.Test.YtgpgladbdoimdaaGreatDoorMLawMV32
namespace Go.Proofs.YtgpgladbdoimdaaGreatDoor
open Go.ChangeShapes Go.WideShapes Go.ChangeAt Go.RowKit Go.Ev Go.Ids Go.SeqP
set_option maxRecDepth 20000
set_option maxHeartbeats 2000000
theorem Fp(b4 b5 n:Nat)(x:Un)(y:aL)(hk:x.id.k+n<18446744073709551616):bu Tryz.prog 228 [iV y,pA b4,pA b5] [ab b4 101 (uC x),ab b5 3 [.int .i64 n]] (fun v H=>v=.bool (decide (y.c=x.id.c)&&decide (x.id.k<y.k)&&decide (y.k<x.id.k+n))∧H=[ab b4 101 (uC x),ab b5 3 [.int .i64 n]]):=by
 intro m0 X hS;refine aP.zA Tryz.func228 ?_;refine aa5 ?_;intro b1 m hS;obtain ⟨b2,hb⟩:∃b,((y.c:Int)==(x.id.c:Int))=b:=⟨_,rfl⟩;have e1:decide (y.c=x.id.c)=b2:=by rw [←hb,uZ];simp;omega
 rw [hb,e1];cases b2 with
 |false=>
  refine go ?_;exact QN.aj rfl rfl ⟨_,rfl,_,⟨YA,rfl⟩,hS.tail⟩
 |true=>
  refine go ?_;obtain ⟨b3,IQ⟩:∃b,decide ((y.k:Int)>(x.id.k:Int))=b:=⟨_,rfl⟩;have e2:decide (x.id.k<y.k)=b3:=by rw [←IQ];exact vQ.2 J9
  rw [IQ,e2];cases b3 with
  |false=>
   refine go ?_;exact QN.aj rfl rfl ⟨_,rfl,_,⟨YA,rfl⟩,hS.tail⟩
  |true=>
   refine go ?_;have hw:IntKind.u64.wrap ((x.id.k:Int)+IntKind.u64.wrap (n:Int))=((x.id.k+n:Nat):Int):=by rw [aq (n:Int) J9 J9,aq _ J9 J9];omega
   have e3:decide ((y.k:Int)<((x.id.k+n:Nat):Int))=decide (y.k<x.id.k+n):=vQ.2 J9;rw [hw,e3];exact QN.aj rfl rfl ⟨_,rfl,_,⟨YA,rfl⟩,hS.tail⟩
theorem Mt(S:List Nat)(s n:Nat)(q:Sq)(x:Un)(ht:q.tr=true)(hq:q.Ok)(ep:q.us.length+n≤1000000):
  bu Tryz.prog 206 [pA s,uV x,.int .i64 n] [a7 S s q] (fun v H=>v=.bool (q.runs x n)∧∃S' q',q'.toUs=q.run x n∧q'.tr=true∧H=[a7 S' s q']):=by
 intro m0 X hS;have no:∀{m:World} {S':List Nat} {F:List az},q.runs x n=false→Tr m0 (au [a7 S s q]) X m (a7 S' s q::F)→∃v,Ending.returned (.bool false)=.returned v∧∃H',(v=.bool (q.runs x n)∧∃S' q',q'.toUs=q.run x n∧q'.tr=true∧H'=[a7 S' s q'])∧Tr m0 (au [a7 S s q]) X m H':=
  fun{m S' F} h hS=>⟨_,rfl,[a7 S' s q],⟨by rw [h],S',q,by simp [Us.run,h],ht,rfl⟩,hS.drop (H:=[_])⟩
 refine aP.zA Tryz.func206 ?_;refine go ?_;refine ac8 ?_;(try clear hS);intro b4 m hS;refine ab4 ?_;refine ac8 ?_;(try clear hS);intro b5 m hS;refine aa1 ?_;have hS:=hS.perm (xI (l₁:=[_,_]) (l₂:=[_]));simp only [zC,zN]at hS;refine go ?_;rcases xR n with Fm|Fm
 ·have hd:decide ((n:Int)<1)=true:=zW J9;rw [hd];refine go ?_;exact QN.aj rfl rfl (no (by simp [Us.runs,Fm]) hS)
 have hd:decide ((n:Int)<1)=false:=zV J9;rw [hd];refine go ?_;have hp:=ja x.id;cases hR:x.id.right with
 |false=>
  rw [hR]at hp;refine zJ hp (fun m hS=>?_);refine go ?_;exact QN.aj rfl rfl (no (by simp [Us.runs,Us.may,hR]) hS)
 |true=>
 rw [hR]at hp;refine zJ hp (fun m hS=>?_);refine go ?_;have WQ:=hR;simp only [aL.right,num,wR,vY]at WQ;have hw:IntKind.u64.wrap (IntKind.u64.wrap (9007199254740991-(x.id.k:Int))+1)=((9007199254740992-x.id.k:Nat):Int):=by rw [aq (9007199254740991-(x.id.k:Int)) J9 J9,aq _ J9 J9];omega
 have jb:IntKind.u64.wrap (n:Int)=(n:Int):=aq _ J9 J9;rw [hw,jb];rcases xA (9007199254740992-x.id.k) n with hk|hk
 ·have hd:decide ((n:Int)>((9007199254740992-x.id.k:Nat):Int))=true:=zW J9;rw [hd];refine go ?_;exact QN.aj rfl rfl (no (by simp [Us.runs];omega) hS)
 have hd:decide ((n:Int)>((9007199254740992-x.id.k:Nat):Int))=false:=zV J9;rw [hd];refine go ?_;refine zD (Rq S s q x) ?_;clear hS;rintro _ m _ ⟨rfl,S2,rfl⟩ hS;simp only [zC,zN]at hS;refine ⟨_,rfl,?_⟩;cases hm:q.may x with
 |false=>
  refine go ?_;exact QN.aj rfl rfl (no (by simp [Us.runs,hm]) hS)
 |true=>
 refine go ?_;refine (WP.eo (X:=Nat) (fun i=>[(0,pA s),(4,pA b4),(5,pA b5),(33,.int .i64 n),(34,.int .i64 i)])
  (fun i m'=>i≤n∧(∀j,j<i→q.idx ⟨x.id.c,x.id.k+j⟩=none)∧∃S2,Tr m0 (au [a7 S s q]) X m' [a7 S2 s q,ab b5 3 [.int .i64 n],ab b4 101 (uC x)])
  (fun i m'=>(∀j,j<n→q.idx ⟨x.id.c,x.id.k+j⟩=none)∧∃S2,Tr m0 (au [a7 S s q]) X m' [a7 S2 s q,ab b5 3 [.int .i64 n],ab b4 101 (uC x)])
  (fun i=>n-i) 0 0 YC ⟨yI _,fun j hj=>absurd hj J9,S2,hS⟩ ?_ ?_)
 ·clear hS;rintro i m ⟨hi,ks,S2,hS⟩;dsimp only at hi ks hS ⊢;refine go ?_;rcases tL hi with mN|mN
  ·have hd:decide ((i:Int)<(n:Int))=false:=zV J9;rw [hd];refine go ?_;exact WP.exit (QN.tx (QN.tx (QN.du i YC ⟨fun j hj=>ks j J9,S2,hS⟩)))
  ·have hd:decide ((i:Int)<(n:Int))=true:=zW J9;rw [hd];obtain ⟨ra,rt,fr,at_,ord,ro,N,k,hS⟩:=bl hS;have hN:ab b4 101 (uC x)∈eZ N++[ab b5 3 [.int .i64 n],ab b4 101 (uC x)]:=by simp
   have hg:=k.get (⟨x.id.c,x.id.k+i⟩:aL);have hw:IntKind.u64.wrap ((x.id.k:Int)+IntKind.u64.wrap (i:Int))=((x.id.k+i:Nat):Int):=by rw [aq (i:Int) J9 J9,aq _ J9 J9];omega
   refine go ?_;rw [hw];refine RH.lookup (κ:=aL) (k:=(⟨x.id.c,x.id.k+i⟩:aL)) (es:=q.fq) (v:=pO ((q.idx ⟨x.id.c,x.id.k+i⟩).map q.a)) aa ai.calm ko rfl J7 rfl rfl rfl rfl rfl rfl rfl JQ hg rfl ?_;obtain ⟨S3,hS⟩:=a8 k hS;cases hx:q.idx ⟨x.id.c,x.id.k+i⟩with
   |some j=>
    refine go ?_;refine QN.vu ?_;refine YI ?_;refine QN.aj rfl rfl (no ?_ hS);rw [Bool.eq_false_iff];intro hh;have:=(Us.iM.1 hh).new i mN;rw [hx]at this;cases this
   |none=>
    refine go ?_;have ZR:IntKind.i64.wrap ((i:Int)+1)=((i+1:Nat):Int):=by rw [ag _ J9 J9];omega
    rw [ZR];refine QN.round (i+1) YC ⟨mN,fun j hj=>?_,S3,hS⟩ J9
    ·rcases tL (Nat.le_of_lt_succ hj)with rfl|hj
     ·exact hx
     ·exact ks j hj
 ·clear hS;rintro _ m ⟨ks,S2,hS⟩;refine QN.bx ?_;have DC:q.lu x n:=⟨Fm,J9,ks,hm⟩;have dD:=Us.iM.2 DC;obtain ⟨Uu,Rv⟩:=DC.there;have own:∀y:aL,(y=⟨0,0⟩∨∃i,q.idx y=some i)→(decide (y.c=x.id.c)&&decide (x.id.k<y.k)&&decide (y.k<x.id.k+n))=false:=fun y hy=>by
   rw [Bool.eq_false_iff];intro hh;simp only [wR,vY]at hh;obtain ⟨⟨h1,h2⟩,h3⟩:=hh;rcases hy with rfl|⟨i,hy⟩
   ·simp only at h1;omega
   ·have:=ks (y.k-x.id.k) J9;rw [show x.id.k+(y.k-x.id.k)=y.k by omega,←h1]at this;rw [show(⟨y.c,y.k⟩:aL)=y from rfl,hy]at this;cases this
  refine go ?_;refine RL.dr (fi:=[]) (ca:=[pA b4,pA b5]) hS (Fp b4 b5 n x x.l J9) rfl rfl rfl rfl JB ?_;clear hS;rintro _ m _ ⟨rfl,rfl⟩ hS;simp only [zC,zN]at hS;rw [own _ Uu];refine ab4 ?_;refine RL.dr (fi:=[]) (ca:=[pA b4,pA b5]) hS (Fp b4 b5 n x x.r J9) rfl rfl rfl rfl JB ?_;clear hS;rintro _ m _ ⟨rfl,rfl⟩ hS;simp only [zC,zN]at hS;rw [own _ Rv];refine ab4 ?_;refine zD (SU S2 s q x ht hm J9) ?_;clear hS;rintro _ m _ ⟨S3,b,rfl⟩ hS;simp only [zC,zN]at hS;refine ab4 ?_;rcases tL Fm with h1|h1
  ·have hd:decide ((n:Int)>1)=false:=zV J9;rw [hd];refine go ?_;refine QN.aj rfl rfl ⟨_,rfl,[a7 S3 s (q.one x b)],⟨by rw [dD],S3,_,?_,rfl,rfl⟩,hS.drop (H:=[_])⟩;have:n=1:=by omega
   subst this;simp [Us.run,dD,Us.cG,Us.nx,Sq.one]
  ·have hd:decide ((n:Int)>1)=true:=zW J9;rw [hd];refine WP.da rfl ?_;have LG:q.idx x.id=none:=by simpa using DC.new 0 Fm
   have NO:(q.one x b).Ok:=hq.put hR LG;have CY:(q.one x b).idx x.id=some q.us.length:=by show(q.put x).idx x.id=_;rw [Us.nN LG,yS rfl]
   have MG:(q.one x b).u q.us.length=x:=Us.ot;obtain ⟨m',rfl⟩:∃m',n=m'+2:=⟨n-2,J9⟩;refine WP.nM [ab b5 3 [.int .i64 (m'+2:Nat)],ab b4 101 (uC x)] hS JD rfl J7 ?_;obtain ⟨ra,rt,fr,at_,ord,ro,N,k,hU⟩:=bl hS;have We:=k.K7;have hg:=k.get x.id;rw [CY]at hg;have ha:(q.one x b).a q.us.length=b:=Sq.CI (by
    have h1:(q.ad++[b]).length=(q.put x).us.length:=We;rw [Us.gB,zY,uW]at h1;omega)
   refine RH.oc 60 aa ai.calm rfl J7 rfl ?_;refine RH.ry aa ai.calm 6 rfl J7 rfl rfl rfl JQ rfl rfl rfl ?_;refine RH.iU aa ai.calm 8 rfl J7 rfl rfl rfl JQ rfl rfl ?_;refine RH.oc 60 aa ai.calm rfl J7 rfl ?_;have hw:IntKind.i64.wrap (((m'+2:Nat):Int)-1)=((m'+1:Nat):Int):=by rw [ag _ J9 J9];omega
   rw [hw];refine ab2 ?_;refine RL.iU aa hU rfl rfl rfl JQ rfl rfl ?_;refine ae8 ?_;refine ab2 ?_;refine RL.lookup (κ:=aL) (k:=x.id) (es:=(q.one x b).fq) (v:=pO ((some q.us.length).map (q.one x b).a)) aa hU ko rfl rfl rfl rfl rfl rfl JQ hg rfl ?_;refine ae8 ?_;have gE:=hq.oH DC;obtain ⟨pa,sd,kk,up,g,_⟩:=hq.grown x;have sr:(q.one x b).idx x.r≠some q.us.length:=fun hh=>by
    have h1:(q.put x).idx x.r=some q.us.length:=hh;rw [Us.nN LG]at h1
    split at h1
    ·rename_i h2;rcases Rv with h3|⟨i,h3⟩
     ·rw [←h2]at h3;exact aL.mV hR h3
     ·rw [←h2,LG]at h3;cases h3
    ·have:=(Us.ba h1).1;omega
   have Wm:=Lq S3 s q.us.length (m'+1) (q.one x b) sd pa rfl NO J9 (by rw [MG];exact gE) (by rw [MG];exact CY) g.new (by rw [MG];exact sr) (by show(q.put x).us.length+_≤_;rw [Us.gB];omega);refine zL Wm ?_;clear hS;rintro _ m _ ⟨S5,bs,TP,rfl⟩ hS;simp only [zC,zN]at hS;refine ⟨by simp only [zC,zN];exact JD,_,rfl,?_⟩;refine go ?_;refine QN.aj rfl rfl ⟨_,rfl,[a7 S5 s _],⟨by rw [dD],S5,_,?_,rfl,rfl⟩,hS.drop (H:=[_])⟩;show((q.put x).cG (Us.nx ((q.one x b).u q.us.length) 1) bs.length)=q.run x (m'+2);rw [TP,MG,Us.run,yS dD];exact (Us.p9 q.toUs x (m'+1)).symm
end Go.Proofs.YtgpgladbdoimdaaGreatDoor
