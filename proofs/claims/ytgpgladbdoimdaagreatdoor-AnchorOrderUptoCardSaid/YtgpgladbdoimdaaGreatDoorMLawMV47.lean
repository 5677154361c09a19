/- Texts that belong together. -/
import Derived.Test.YtgpgladbdoimdaaGreatDoorMLawMV44
import Derived.Test.YtgpgladbdoimdaaGreatDoorMLawMV45
import Derived.Test.YtgpgladbdoimdaaGreatDoorMLawMV46
namespace Go.Proofs.YtgpgladbdoimdaaGreatDoor
open Go.RowKit Go.Ev Go.Ids Go.SeqP
def pP(T:List aK)(n:Nat):Prop:=∃l:List aL,l.length≤n∧∀c k,ak T c k≠0→(⟨c,k⟩:aL)∈l
theorem pP.nil:pP [] 0:=⟨[],yP _,fun _ _ h=>absurd rfl h⟩
theorem pP.le{T:List aK}{n m:Nat}(h:pP T n)(hn:n≤m):pP T m:=by
 obtain ⟨l,h1,h2⟩:=h;exact ⟨l,wG h1 hn,h2⟩
theorem pP.len{T:List aK}{n:Nat}(h:pP T n)(hT:bb T):T.length≤n:=by
 obtain ⟨l,h1,h2⟩:=h;have h3:(T.map fun x=>(⟨x.c,x.f⟩:aL)).Nodup:=by
  refine List.Pairwise.map _ (fun x y OL=>OL) ?_;refine List.Pairwise.imp_of_mem (R:=aK.Eo) (fun{x y} hx _ hb he=>?_) hT.2;have hr:=aT.1 (hT.1 x hx);simp only [aL.mk.injEq]at he;rcases hb with hb|⟨_,hb|⟨hb,_⟩⟩<;>omega
 have h4:=tY (b:=l) h3 fun y hy=>by
  obtain ⟨x,hx,rfl⟩:=vE.1 hy;refine h2 _ _ fun h0=>?_
  have hr:=aT.1 (hT.1 x hx);have ha:=AT (c:=x.c) (k:=x.f) (hT.1 x hx) rfl (yP _) hr.2.2.2.1;have:∀{l:List aK} {x:aK},x∈l→x.at x.c x.f≤ak l x.c x.f:=by
   intro l
   induction l with
   |nil=>intro x hx;cases hx
   |cons y l ih=>
    intro x hx;show _≤max _ _;rcases yH.1 hx with rfl|hx
    ·omega
    ·have:=ih hx;omega
  have:=this hx;omega
 rw [uF]at h4;omega
theorem pP.join{a b L:List aK}{n m:Nat}(ha:pP a n)(hb:pP b m)(hL:TF (a++b) L):pP L (n+m):=by
 obtain ⟨l1,h1,h2⟩:=ha;obtain ⟨l2,h3,h4⟩:=hb;refine ⟨l1++l2,Jl,fun c k h=>?_⟩;rw [hL.2,cn]at h;rw [yL]
 by_cases h5:ak a c k=0
 ·exact .inr (h4 c k J9)
 ·exact .inl (h2 c k h5)
theorem pP.Rg{l T:List aK}(h:∀y∈l,y.t=y.f+1)(hT:TF l T):pP T l.length:=by
 refine ⟨l.map fun x=>⟨x.c,x.f⟩,by rw [uF];exact yP _,fun c k hk=>?_⟩;rw [hT.2]at hk;obtain ⟨x,hx,he⟩:=gT hk;obtain ⟨_,h1,h2,h3,_⟩:=oK (x:=x) (c:=c) (k:=k) J9;rw [vE];exact ⟨x,hx,by rw [Hr];have:=h x hx;exact ⟨h1,J0⟩⟩
structure ia where
 os:List a6
 ts:List aK
def Bu(u:ia)(c:Nat):Nat:=match u.os with
 |[]=>0
 |o::_=>if o.id.c=c then o.n else 0
def nZ:List ia→Nat→Nat
 |[],_=>0
 |u::l,c=>Bu u c+nZ l c
theorem fB(a b:List ia)(c:Nat):nZ (a++b) c=nZ a c+nZ b c:=by
 induction a with
 |nil=>simp [nZ]
 |cons u a ih=>simp only [yB,nZ,ih];omega
theorem rW(l:List ia)(j:Nat)(c:Nat):nZ (l.take j) c≤nZ l c:=by
 have:=fB (l.take j) (l.drop j) c;rw [yG]at this;omega
theorem HS{l:List ia}{j:Nat}{u:ia}(h:l[j]?=some u)(c:Nat):nZ (l.take (j+1)) c=nZ (l.take j) c+Bu u c:=by
 obtain ⟨h1,h2⟩:=yV.1 h;rw [wB,h,fB];rfl
structure jN(K:Nat→Nat)(u:ia):Prop where
 os:u.os=[]∨∃o,u.os=[o]∧Good o∧o.id.k=K o.id.c+1∧∀i∈o.cY,1≤i.k∧i.k≤K i.c
 ts:bb u.ts
 cv:pP u.ts 4
theorem jN.ol{K:Nat→Nat}{u:ia}(h:jN K u):u.os.length≤1:=by
 rcases h.os with h|⟨o,h,_⟩<;>rw [h]<;>simp
theorem jN.tl{K:Nat→Nat}{u:ia}(h:jN K u):u.ts.length≤4:=h.cv.len h.ts
def jY(l:List ia):Prop:=∀j u,l[j]?=some u→jN (nZ (l.take j)) u
theorem jY.nil:jY []:=fun j u h=>by simp at h
theorem jY.snoc{l:List ia}{u:ia}(h:jY l)(hu:jN (nZ l) u):jY (l++[u]):=fun j v hv=>by
 rcases Nat.lt_trichotomy j l.length with hj|rfl|hj
 ·rw [vJ hj]at hv;rw [yE (Nat.le_of_lt hj)];exact h j v hv
 ·rw [vM (yP _),tG]at hv;cases hv;rw [tE]
  ·exact hu
  ·rfl
 ·rw [tK J6]at hv;cases hv
structure RI(x:Rx)(K:Nat→Nat)(n:Nat):Prop where
 s:Mg x n
 k:∀c,bI x.K c=K c
 i:TO x
 w:x.W=[]
 cv:pP x.T (4*n)
 d:x.D=clean (hid x.T)
 q:x.q.Ok
theorem Kn.up{K K':List bB}{i:aL}(h:Kn K i)(hK:∀c,bI K c≤bI K' c):Kn K' i:=⟨h.1,wG h.2.1 (hK _),h.2.2⟩
theorem Mg.up{x:Rx}{n m:Nat}(h:Mg x n)(hn:n≤m):Mg x m:=by
 obtain ⟨h1,h2,h3,h4,h5,h6,h7,h8,h9⟩:=h;exact ⟨J9,J9,J9,J9,J9,J9,J9,J9,J9⟩
theorem RI.up{x:Rx}{K:Nat→Nat}{n m:Nat}(h:RI x K n)(hn:n≤m):RI x K m:=⟨h.s.up hn,h.k,h.i,h.w,h.cv.le J9,h.d,h.q⟩
theorem RI.sA{x:Rx}{K K':Nat→Nat}{n:Nat}(h:RI x K n)(hK:∀c,K c=K' c):RI x K' n:=⟨h.s,fun c=>(h.k c).trans (hK c),h.i,h.w,h.cv,h.d,h.q⟩
theorem Good.RO{o:a6}(g:Good o):o.st≤9007199254740991:=by
 rcases g.kind with h|h|h|h
 ·rw [h.2.2.2.2.1];exact yI _
 ·rw [h.2.2.2.1];exact yI _
 ·exact h.2.2.2.1.2
 ·exact h.2.2.1.2
theorem KB{q:Us}(hq:q.Ok)(x:Un)(n:Nat):(q.run x n).Ok∧(q.run x n).us.length≤q.us.length+n∧∀u∈(q.run x n).ax,u∈q.ax∨(q.runs x n=true∧∃j,j<n∧u=Us.nx x j):=by
 unfold Us.run
 split
 ·rename_i hr;have r:=Us.iM.1 hr;refine ⟨Us.nH hq r n (yP _),by rw [Us.kZ];exact yP _,fun u hu=>?_⟩;obtain ⟨n',rfl⟩:∃n',n=n'+1:=⟨n-1,by have:=r.pos;omega⟩;rw [hq.BK r n' (Nat.lt_succ_self _)]at hu;rcases yL.1 hu with h|h
  ·exact .inl (List.mem_of_mem_take h)
  ·rcases yL.1 h with h|h
   ·obtain ⟨j,hj,rfl⟩:=vE.1 h;exact .inr ⟨hr,j,List.mem_range.1 hj,rfl⟩
   ·exact .inl (tD h)
 ·exact ⟨hq,Nat.le_add_right ..,fun u hu=>.inl hu⟩
theorem RI.AA{x:Rx}{K:Nat→Nat}{n:Nat}(h:RI x K n){ts T':List aK}(hc:pP ts 4)(hT:TF (x.T++ts) T'):RI (rT x T') K (n+1):=by
 have XV:=(h.cv.join hc hT).le (show 4*n+4≤4*(n+1) by omega);have hl:=XV.len hT.1;have hD:(clean (hid T')).length≤4*(n+1):=wG (eM _) (wG (iq _) hl);obtain ⟨h1,h2,h3,h4,h5,h6,h7,h8,h9⟩:=h.s;exact ⟨⟨by show x.L.length≤_;omega,by show x.K.length≤_;omega,hl,hD,by show x.q.us.length≤_;omega,by show x.ML.length≤_;omega,hD,by show x.Mk.length≤_;omega,by show x.V.length≤_;omega⟩,h.k,⟨h.i.u,h.i.m,h.i.k,h.i.s,hT.1⟩,h.w,XV,rfl,h.q⟩
theorem RI.UI{x x':Rx}{K:Nat→Nat}{n:Nat}(h:RI x K (n+1))(hL:x.L.length≤n∧x.K.length≤n∧x.q.us.length≤4096*n∧x.ML.length≤n∧x.Mk.length≤n∧x.V.length≤n){o:a6}(g:Good o)(hk:o.id.k=K o.id.c+1)(st:kJ x o x'):RI x' (fun c=>K c+(if o.id.c=c then o.n else 0)) (n+1):=by
 obtain ⟨h1,h2,h3,h4,h5,h6,h7,h8,h9⟩:=h.s;obtain ⟨l1,l2,l3,l4,l5,l6⟩:=hL;have hn:=g.gq;have Qa:=g.vq;have hid:=g.id;simp only [aL.right,num,wR,vY]at hid;have B6:=g.top;have Vi:∀c,(⟨o.id.c,o.id.k+o.n-1⟩:bB).at c=if o.id.c=c then o.id.k+o.n-1 else 0:=fun c=>by
  unfold bB.at
  by_cases hc:o.id.c=c
  ·rw [yS hc,yS ⟨hc,J9,J9⟩];dsimp only;omega
  ·rw [zX hc,zX fun hh=>hc hh.1]
 have hv:∀c,bI x'.K c=K c+(if o.id.c=c then o.n else 0):=fun c=>by
  rw [st.K,Ih,h.k];show max _ (max ((⟨o.id.c,o.id.k+o.n-1⟩:bB).at c) 0)=_;rw [Vi]
  by_cases hc:o.id.c=c
  ·subst hc;rw [yS rfl,yS rfl];omega
  ·rw [zX hc,zX hc];omega
 have SE:∀c,bI x.K c≤bI x'.K c:=fun c=>by rw [hv,h.k];omega
 obtain ⟨r1,r2,r3⟩:=KB h.q (oU o) o.n;have pR:x'.q.Ok∧x'.q.us.length≤x.q.us.length+o.n∧∀u∈x'.q.ax,u∈x.q.ax∨(∃j,j<o.n∧u.id=⟨o.id.c,o.id.k+j⟩):=by
  rw [st.q]
  split
  ·exact ⟨r1,r2,fun u hu=>(r3 u hu).imp id fun⟨_,j,hj,he⟩=>⟨j,hj,by rw [he,Us.lq];rfl⟩⟩
  ·exact ⟨h.q,Nat.le_add_right ..,fun u hu=>.inl hu⟩
 have Ht:∀j,j<o.n→Kn x'.K ⟨o.id.c,o.id.k+j⟩:=fun j hj=>by
  refine ⟨J0,by rw [hv];dsimp only;rw [yS rfl];omega,?_⟩;simp only [aL.right,num,wR,vY];omega
 have hj:=ED x.K [⟨o.id.c,o.id.k+o.n-1⟩];rw [←st.K,uW]at hj;have TE:∀y∈x'.ML,y∈x.ML∨y=o:=fun y hy=>by
  rcases st.ML with e|e
  ·exact .inl (e▸hy)
  ·rw [e,yL,zT]at hy;exact hy
 have Zj:x'.ML.length≤x.ML.length+1:=by
  rcases st.ML with e|e
  ·rw [e];omega
  ·rw [e,zY,uW];omega
 have e1:=st.Mk;have e2:=st.V;refine ⟨⟨by rw [st.L,zY,uW];omega,J9,by rw [st.T];exact h3,by rw [st.D];exact h4,by have:=pR.2.1;omega,J9,by rw [st.MH];exact h7,J9,J9⟩,hv,⟨fun u hu=>?_,fun y hy=>?_,fun c=>xm _ _,fun y hy=>?_,by rw [st.T];exact h.i.t⟩,by rw [st.W];exact h.w,by rw [st.T];exact h.cv,by rw [st.D,st.T];exact h.d,pR.1⟩
 ·rcases pR.2.2 u hu with hu|⟨j,hj,he⟩
  ·exact (h.i.u u hu).up SE
  ·rw [he];exact Ht j hj
 ·rcases TE y hy with hy|rfl
  ·exact (h.i.m y hy).up SE
  ·exact Ht 0 J9
 ·rw [st.L,yL,zT]at hy;rcases hy with hy|rfl
  ·exact h.i.s y hy
  ·exact g.RO
theorem RI.may{x:Rx}{K:Nat→Nat}{n:Nat}(h:RI x K n){ts T':List aK}(hc:pP ts 4)(hT:TF (x.T++ts) T'):T'.length≤4*(n+1):=(h.AA hc hT).s.T
theorem RI.fresh{x x':Rx}{K:Nat→Nat}{n:Nat}(h:RI x K n){u:ia}(hu:jN K u):
  (∀o∈u.os,Good o∧TS x.K o)∧(Cj x u.os u.ts x'→RI x' (fun c=>K c+Bu u c) (n+1)):=by
 refine ⟨fun o ho=>?_,?_⟩
 ·rcases hu.os with e|⟨o',e,g,h1,h2⟩
  ·rw [e]at ho;cases ho
  ·rw [e,zT]at ho;subst ho;exact ⟨g,.inr ⟨by rw [h.k];exact h1,fun i hi=>by rw [h.k];exact h2 i hi⟩⟩
 ·rintro ⟨T',hT,ha⟩;have h1:=h.AA hu.cv hT;obtain ⟨f1,f2,f3,f4,f5,f6,f7,f8,f9⟩:=h.s;rcases ha with⟨rfl,hd⟩|⟨o,e,hk,st⟩
  ·refine h1.sA fun c=>?_
   rcases hu.os with e|⟨o,e,g,h2,_⟩
   ·rw [Bu,e];rfl
   ·have:=hd o (by rw [e];exact zS ..);rw [h.k]at this;have:=g.gq;omega
  ·have g:Good o:=by
    rcases hu.os with e2|⟨o2,e2,g,_⟩
    ·rw [e]at e2;cases e2
    ·rw [e]at e2;cases e2;exact g
   rw [h.k]at hk;refine (h1.UI ⟨f1,f2,f5,f6,f8,f9⟩ g hk st).sA fun c=>?_
   rw [Bu,e]
theorem RI.old{x x':Rx}{K:Nat→Nat}{n:Nat}(h:RI x K n){os:List a6}{ts:List aK}(hc:pP ts 4)(ho:∀o∈os,Good o∧o.id.k+o.n≤K o.id.c+1):
  (∀o∈os,Good o∧TS x.K o)∧(Cj x os ts x'→RI x' K (n+1)):=by
 refine ⟨fun o h1=>⟨(ho o h1).1,.inl (by rw [h.k];exact (ho o h1).2)⟩,?_⟩;rintro ⟨T',hT,ha⟩;have h1:=h.AA hc hT;rcases ha with⟨rfl,hd⟩|⟨o,e,hk,st⟩
 ·exact h1
 ·obtain ⟨g,h2⟩:=ho o (by rw [e];exact zS ..);rw [h.k]at hk;have:=g.gq;omega
theorem RI.zero:RI C0 (fun _=>0) 0:=⟨⟨yP _,yP _,yP _,yP _,yP _,yP _,yP _,yP _,yP _⟩,fun _=>rfl,
 ⟨(fun _ h=>by cases h),(fun _ h=>by cases h),(fun _=>yI _),(fun _ h=>by cases h),bb.nil⟩,rfl,pP.nil,(dU Canon.nil).symm,Xg⟩
open Go.ChangeShapes Go.WideShapes Go.ChangeAt
set_option maxRecDepth 20000
set_option maxHeartbeats 12000000
structure Uv where
 vo:Value
 vt:Value
 u:ia
def BO(z:Uv):List Value:=[z.vo,z.vt]
theorem lE(z:Uv):(BO z).length=2:=rfl
def mO(l:List Uv):List (Value×List Value):=l.map fun z=>(z.vo,z.u.os.flatMap oC)
def mI(l:List Uv):List (Value×List Value):=l.map fun z=>(z.vt,z.u.ts.flatMap tC)
def ez(l:List Uv):List ia:=l.map (·.u)
theorem lI{l:List Uv}{i:Nat}{z:Uv}(h:l[i]?=some z):(z.vo,z.u.os.flatMap oC)∈mO l∧(z.vt,z.u.ts.flatMap tC)∈mI l:=
 ⟨vE.2 ⟨z,xU h,rfl⟩,vE.2 ⟨z,xU h,rfl⟩⟩
def qd:List ia→Us→Us
 |[],q=>q
 |u::l,q=>qd l (qU u.os q)
theorem uc(a b:List ia)(q:Us):qd (a++b) q=qd b (qd a q):=by
 induction a generalizing q with
 |nil=>rfl
 |cons u a ih=>exact ih _
def Qb(l:List ia):List aK:=l.flatMap (·.ts)
structure RD(x:Rx)(l:List ia):Prop where
 i:RI x (nZ l) l.length
 q:x.q=qd l ⟨[],.nil⟩
 t:∀c k,ak x.T c k=ak (Qb l) c k
theorem RD.snoc{x x':Rx}{l:List ia}{u:ia}(h:RD x l)(hu:jN (nZ l) u)(ha:Cj x u.os u.ts x'):RD x' (l++[u]):=by
 have h1:=(h.i.fresh (x':=x') hu).2 ha;obtain ⟨T',hT,h2⟩:=ha;have hq:x'.q=qU u.os x.q∧x'.T=T':=by
  rcases h2 with⟨rfl,hd⟩|⟨o,e,hk,st⟩
  ·refine ⟨?_,rfl⟩;rcases hu.os with e|⟨o,e,g,h3,_⟩
   ·rw [e];rfl
   ·have:=hd o (by rw [e];exact zS ..);rw [h.i.k]at this;have:=g.gq;omega
  ·exact ⟨by rw [st.q,e];rfl,st.T⟩
 refine ⟨?_,by rw [hq.1,uc,←h.q];rfl,fun c k=>?_⟩
 ·rw [zY,uW];refine h1.sA fun c=>?_
  rw [fB];simp [nZ]
 ·rw [hq.2,hT.2,cn,h.t,Qb,Qb,vG,cn];simp
theorem RD.nil:RD C0 []:=⟨RI.zero.sA fun _=>rfl,rfl,fun _ _=>rfl⟩
abbrev Ip(v:Value)(l:List Uv):az:=bW 2 v (l.flatMap BO)
abbrev LQ(v:Value)(l:List Uv):List az:=[Ip v l,ey 22 (mO l),ey 4 (mI l)]
theorem Kd(v:Value)(l:List Uv)(hl:l.length≤180)(hr:jY (ez l)):bu Tryz.prog 36 [v] (LQ v l) (fun r H=>∃d S x,r=pA d∧RD x (ez l)∧H=[cN S d x]):=by
 intro m0 X hS;obtain ⟨M0,bR⟩:=zP (au (LQ v l));rw [←bR]at hS ⊢;obtain ⟨A,c,rfl,_,_,hA⟩:=Sl.gY BO lE (hS.bE (show Ip v l∈_ from JQ)) J8;refine aP.zA Tryz.func36 ?_;refine ah ?_;refine RL.cM CO ?_;clear hS;rintro _ m _ ⟨d,S,rfl,rfl⟩ hS;simp only [zC,zN]at hS;refine aa7 ?_;refine (WP.eo (X:=Nat×List Nat×Rx) (fun z=>[(0,.slice A l.length c),(3,pA d),(4,.int .i64 z.1)])
  (fun z m'=>z.1≤l.length∧RD z.2.2 ((ez l).take z.1)∧Tr m0 M0 X m' (cN z.2.1 d z.2.2::LQ (.slice A l.length c) l))
  (fun z m'=>RD z.2.2 (ez l)∧Tr m0 M0 X m' (cN z.2.1 d z.2.2::LQ (.slice A l.length c) l)) (fun z=>l.length-z.1) (0,S,C0) 0
  YC ⟨yI _,RD.nil,hS⟩ ?_ ?_)
 ·clear hS;rintro ⟨i,S,x⟩ m ⟨hi,hx,hS⟩;dsimp only at hi hx hS ⊢;refine ah ?_;rcases xA i l.length with aM|fW
  ·rw [zW (show(i:Int)<(l.length:Int) by omega)];obtain ⟨z,hz⟩:=zQ aM;obtain ⟨ad,rfl⟩:=hA i z hz;have R4:(ez l)[i]?=some z.u:=by rw [ez,xM,hz];rfl
   have hu:=hr i z.u R4;refine ah ?_;refine RL.fg aa BO lE (hS.bE (show Ip (.slice (some ad) l.length c) l∈_ from JQ)) hz 0 (BO z) rfl rfl rfl rfl rfl YB rfl rfl ?_;refine ah ?_;have hS:=(hS.mf (show ey 22 (mO l)∈_ from JQ) (lI hz).1).mf (show ey 4 (mI l)∈_ from zO _ JQ) (lI hz).2;have hlen:((ez l).take i).length=i:=by rw [yA,ez,uF];omega
   have hI:=hx.i;rw [hlen]at hI;refine RL.cM (o5 S d x i hI.s J9 hI.w z.vo z.vt z.u.os z.u.ts hu.ol (hI.fresh (x':=x) hu).1 hu.tl (fun T' hT=>hI.may hu.cv hT)) ?_;clear hS;rintro _ m _ ⟨rfl,S',x',ha,hw,rfl⟩ hS;simp only [zC,zN]at hS;refine ⟨_,rfl,?_⟩;refine ah ?_;rw [ag ((i:Int)+1) J9 J9,show(i:Int)+1=((i+1:Nat):Int) by omega];have hS:=(hS.aH (Pre:=cN S' d x'::LQ (.slice (some ad) l.length c) l) JC).drop;refine QN.round (i+1,S',x') YC ⟨aM,?_,hS⟩ J0;dsimp only;rw [wB,R4];exact hx.snoc hu ha
  ·rw [zV (show¬(i:Int)<(l.length:Int) by omega)];refine ah ?_;refine QN.du (i,S,x) YC ⟨?_,hS⟩;rw [yD (by rw [ez,uF];omega)]at hx;exact hx
 ·clear hS;rintro ⟨i,S,x⟩ m ⟨hx,hS⟩;dsimp only at hx hS ⊢;refine QN.bx ?_;refine ah ?_;exact QN.aj rfl rfl ⟨_,rfl,_,⟨d,S,x,rfl,hx,rfl⟩,hS.drop (H:=[_])⟩
def Kw(k:Nat)(l:List ia)(h:Nat)(c:Nat):Nat:=if c=k+1 then nZ l c else nZ (l.take h) c
theorem Kw.le(k:Nat)(l:List ia)(h c:Nat):Kw k l h c≤nZ l c:=by
 unfold Kw
 split
 ·exact yP _
 ·exact rW l h c
theorem Kw.ge(k:Nat)(l:List ia)(h c:Nat):nZ (l.take h) c≤Kw k l h c:=by
 unfold Kw
 split
 ·exact rW l h c
 ·exact yP _
theorem xl{u:ia}{o:a6}(e:u.os=[o])(c:Nat):Bu u c=if o.id.c=c then o.n else 0:=by rw [Bu,e]
theorem tX{x x':Rx}{k h n:Nat}{l:List ia}{u:ia}(hr:jY l)(hu:l[h]?=some u)(hx:RI x (Kw k l h) n):
  (∀o∈u.os,Good o∧TS x.K o)∧(Cj x u.os u.ts x'→RI x' (Kw k l (h+1)) (n+1)):=by
 have ho:=hr h u hu;have gE:=fun c=>HS hu c
 rcases ho.os with e|⟨o,e,g,h1,h2⟩
 ·have:=hx.fresh (x':=x') (u:=u) ⟨.inl e,ho.ts,ho.cv⟩;refine ⟨this.1,fun ha=>(this.2 ha).sA fun c=>?_⟩;have e1:Bu u c=0:=by rw [Bu,e]
  unfold Kw
  split
  ·omega
  ·rw [gE]
 ·by_cases hc:o.id.c=k+1
  ·have hd:o.id.k+o.n≤Kw k l h o.id.c+1:=by
    have:=rW l (h+1) o.id.c;rw [gE,xl e,yS rfl]at this;rw [Kw,yS hc];omega
   have:=hx.old (x':=x') (os:=u.os) (ts:=u.ts) ho.cv (fun o' Gu=>by
    rw [e,zT]at Gu;subst Gu;exact ⟨g,hd⟩)
   refine ⟨this.1,fun ha=>(this.2 ha).sA fun c=>?_⟩;unfold Kw
   split
   ·rfl
   ·rw [gE,xl e,zX J9];rfl
  ·have:=hx.fresh (x':=x') (u:=u) ⟨.inr ⟨o,e,g,by rw [Kw,zX hc];exact h1,fun i hi=>⟨(h2 i hi).1,wG (h2 i hi).2 (Kw.ge k l h _)⟩⟩,ho.ts,ho.cv⟩;refine ⟨this.1,fun ha=>(this.2 ha).sA fun c=>?_⟩;unfold Kw
   split
   ·rename_i h3;rw [xl e,zX J9];rfl
   ·rw [gE]
theorem th{x:Rx}{k h n:Nat}{l:List ia}{e:Ed}{os:List a6}{ts:List aK}(hx:RI x (Kw k l h) n)(hm:H6 x (k+1) e os ts):
  jN (nZ l) ⟨os,ts⟩∧jN (Kw k l h) ⟨os,ts⟩∧∀c,c≠k+1→Bu ⟨os,ts⟩ c=0:=by
 rcases hm with⟨o,rfl,rfl,g,hid,hn,_⟩|⟨_,rfl,T,hT,hl,h1⟩
 ·have hk:o.id.k=Kw k l h (k+1)+1:=by rw [hid,←hx.k]
  have hc:o.id.c=k+1:=by rw [hid]
  have hK:Kw k l h (k+1)=nZ l (k+1):=by rw [Kw,yS rfl]
  refine ⟨⟨.inr ⟨o,rfl,g,by rw [hc,hk,hK],fun i hi=>⟨(hn i hi).1,?_⟩⟩,bb.nil,pP.nil.le (yI _)⟩,⟨.inr ⟨o,rfl,g,by rw [hc,hk],fun i hi=>⟨(hn i hi).1,?_⟩⟩,bb.nil,pP.nil.le (yI _)⟩,fun c h=>?_⟩
  ·exact wG (by rw [←hx.k];exact (hn i hi).2.1) (Kw.le k l h _)
  ·rw [←hx.k];exact (hn i hi).2.1
  ·rw [xl rfl,zX J9]
 ·exact ⟨⟨.inl rfl,hT.1,(pP.Rg h1 hT).le hl⟩,⟨.inl rfl,hT.1,(pP.Rg h1 hT).le hl⟩,fun _ _=>rfl⟩
theorem FU{x:Rx}{k h n:Nat}{l:List ia}{u:ia}(hh:h≤l.length)(hz:∀c,c≠k+1→Bu u c=0)(hx:RI x (fun c=>Kw k l h c+Bu u c) n):RI x (Kw k (l++[u]) h) n:=
 hx.sA fun c=>by
  unfold Kw
  split
  ·rw [fB];simp [nZ]
  ·rename_i h1;rw [hz c h1,yE hh];rfl
theorem BP{x:Rx}{k j h n:Nat}{l:List ia}{u:ia}(hj:j≠k)(hh:h≤l.length)(hz:∀c,c≠k+1→Bu u c=0)(hx:RI x (Kw j l h) n):RI x (Kw j (l++[u]) h) n:=
 hx.sA fun c=>by
  unfold Kw
  split
  ·rw [fB];have:=hz c J9;simp [nZ,this]
  ·rw [yE hh]
theorem Ck(k:Nat):RI C0 (Kw k [] 0) 0:=RI.zero.sA fun c=>by unfold Kw;split<;>rfl
structure Dw where
 d:Nat
 S:List Nat
 x:Rx
def Dw.A(w:Dw):az:=cN w.S w.d w.x
def Fh(w:Dw):List Value:=[pA w.d]
theorem qe(w:Dw):(Fh w).length=1:=rfl
def hC(h:Nat):List Value:=[.int .i64 h]
theorem oA(h:Nat):(hC h).length=1:=rfl
theorem DM{D:List Dw}{k:Nat}{w:Dw}(h:D[k]?=some w):(D.map Dw.A).Perm (w.A::(D.eraseIdx k).map Dw.A):=by
 induction D generalizing k with
 |nil=>simp at h
 |cons y D ih=>
  cases k with
  |zero=>simp at h;subst h;exact .refl _
  |succ k=>
   simp only [uH]at h;exact ((ih h).cons _).trans (.swap ..)
theorem NG{D:List Dw}{k:Nat}{w w':Dw}(h:D[k]?=some w):((D.set k w').map Dw.A).Perm (w'.A::(D.eraseIdx k).map Dw.A):=by
 induction D generalizing k with
 |nil=>simp at h
 |cons y D ih=>
  cases k with
  |zero=>exact .refl _
  |succ k=>
   simp only [uH]at h;exact ((ih h).cons _).trans (.swap ..)
theorem we{D:List Dw}{k:Nat}{w w':Dw}(h:D[k]?=some w)(hd:w'.d=w.d):(D.set k w').flatMap Fh=D.flatMap Fh:=by
 induction D generalizing k with
 |nil=>rfl
 |cons y D ih=>
  cases k with
  |zero=>
   simp at h;subst h;simp [Fh,hd]
  |succ k=>
   simp only [uH]at h;simp [ih h]
theorem EL{α:Type}{r:α}{P G E:List α}:((r::P)++(G++E)).Perm (P++((r::E)++G)):=by
 refine (vU (l₁:=P) (a:=r) (l₂:=G++E)).symm.trans (.append_left _ (.cons _ ?_));exact xI
theorem dp{m0 m:World}{M0 X:List Nat}{D:List Dw}{k:Nat}{w w':Dw}(hw:D[k]?=some w){P G:List az}(h:Tr m0 M0 X m ((w'.A::P)++(G++(D.eraseIdx k).map Dw.A))):Tr m0 M0 X m (P++(D.set k w').map Dw.A):=by
 have h2:=(h.perm EL).perm (show(P++((w'.A::(D.eraseIdx k).map Dw.A)++G)).Perm ((P++(D.set k w').map Dw.A)++G) from by rw [wM];exact ((NG hw).symm.append_right _).append_left _);exact h2.drop
structure LI(wr i:Nat)(l:List ia)(hs:List Nat)(D:List Dw):Prop where
 r:jY l
 li:l.length≤i
 hl:hs.length=wr
 dl:D.length=wr
 h:∀(k h:Nat),hs[k]?=some h→h≤l.length
 x:∀(k h:Nat) (w:Dw),hs[k]?=some h→D[k]?=some w→RI w.x (Kw k l h) (i+h)
theorem LI.up{wr i:Nat}{l:List ia}{hs:List Nat}{D:List Dw}(h:LI wr i l hs D):LI wr (i+1) l hs D:=⟨h.r,yQ h.li,h.hl,h.dl,h.h,fun k z w h1 h2=>(h.x k z w h1 h2).up J9⟩
theorem LI.Vf{wr i k z:Nat}{l:List ia}{hs:List Nat}{D:List Dw}{w:Dw}{x':Rx}{u:ia}{S2:List Nat}(h:LI wr i l hs D)(hz:hs[k]?=some z)(hw:D[k]?=some w)(hu:l[z]?=some u)(ha:Cj w.x u.os u.ts x'):LI wr i l (hs.set k (z+1)) (D.set k ⟨w.d,S2,x'⟩):=by
 have hk:=(yV.1 hz).1;have FG:=(yV.1 hu).1;refine ⟨h.r,h.li,by rw [vB];exact h.hl,by rw [vB];exact h.dl,fun j y hj=>?_,fun j y w2 hj jb=>?_⟩
 ·rw [uR]at hj
  split at hj
  ·cases hj;exact FG
  ·exact h.h j y hj
 ·rw [uR]at hj jb
  by_cases CB:k=j
  ·subst CB;rw [yS rfl,yS hk]at hj;rw [yS rfl,yS (yV.1 hw).1]at jb;cases hj;cases jb;exact (tX h.r hu (h.x k z w hz hw)).2 ha
  ·rw [zX CB]at hj jb;exact h.x j y w2 hj jb
theorem LI.make{wr i k z:Nat}{l:List ia}{hs:List Nat}{D:List Dw}{w:Dw}{x':Rx}{e:Ed}{os:List a6}{ts:List aK}{S2:List Nat}(h:LI wr i l hs D)(hz:hs[k]?=some z)(hw:D[k]?=some w)(hm:H6 w.x (k+1) e os ts)(ha:Cj w.x os ts x'):LI wr (i+1) (l++[⟨os,ts⟩]) hs (D.set k ⟨w.d,S2,x'⟩):=by
 have hI:=h.x k z w hz hw;obtain ⟨m1,m2,m3⟩:=th hI hm;refine ⟨h.r.snoc m1,by rw [zY,uW];have:=h.li;omega,h.hl,by rw [vB];exact h.dl,fun j y hj=>by rw [zY];have:=h.h j y hj;omega,fun j y w2 hj jb=>?_⟩;rw [uR]at jb
 by_cases CB:k=j
 ·subst CB;rw [yS rfl,yS (yV.1 hw).1]at jb;cases jb;rw [hz]at hj;cases hj;exact (FU (h.h k z hz) m3 ((hI.fresh (u:=⟨os,ts⟩) m2).2 ha)).up J9
 ·rw [zX CB]at jb;exact (BP (yM CB) (h.h j y hj) m3 (h.x j y w2 hj jb)).up J9
theorem LI.start{n:Nat}{D:List Dw}(hD:D.length=n)(hx:∀w∈D,w.x=C0):LI n 0 [] (List.replicate n 0) D:=by
 refine ⟨jY.nil,yP _,YA,hD,fun k h hk=>?_,fun k h w hk hw=>?_⟩
 ·rw [List.getElem?_replicate]at hk
  split at hk
  ·cases hk;exact yP _
  ·cases hk
 ·rw [List.getElem?_replicate]at hk
  split at hk
  ·cases hk;rw [hx w (xU hw)];exact Ck k
  ·cases hk
theorem LI.same{wr i k:Nat}{l:List ia}{hs:List Nat}{D:List Dw}{w:Dw}{S2:List Nat}(h:LI wr i l hs D)(hw:D[k]?=some w):LI wr i l hs (D.set k ⟨w.d,S2,w.x⟩):=by
 refine ⟨h.r,h.li,h.hl,by rw [vB];exact h.dl,h.h,fun j y w2 hj jb=>?_⟩;rw [uR]at jb
 by_cases CB:k=j
 ·subst CB;rw [yS rfl,yS (yV.1 hw).1]at jb;cases jb;exact h.x k y w hj hw
 ·rw [zX CB]at jb;exact h.x j y w2 hj jb
end Go.Proofs.YtgpgladbdoimdaaGreatDoor
