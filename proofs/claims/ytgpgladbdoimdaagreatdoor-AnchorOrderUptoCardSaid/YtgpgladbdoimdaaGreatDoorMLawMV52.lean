/- Texts that belong together. -/
import Derived.Test.YtgpgladbdoimdaaGreatDoorMLawMV37
import Derived.Test.YtgpgladbdoimdaaGreatDoorMLawMV43
namespace Go.Proofs.YtgpgladbdoimdaaGreatDoor
open Go.ChangeShapes Go.WideShapes Go.ChangeAt Go.RowKit Go.Ev Go.Ids Go.SeqP
set_option maxRecDepth 20000
set_option maxHeartbeats 12000000
theorem Hg(S:List Nat)(d:Nat)(x:Rx)(ep:x.D.length≤1000000)(at_:Int)(after:Bool):bu Tryz.prog 12 [pA d,.int .i64 at_,.bool after] [cN S d x] (fun r H=>r=.tuple #[aV (dJ (dw x) at_ after).1,.bool (dJ (dw x) at_ after).2]∧∃S',H=[cN S' d x]):=by
 intro m0 X hS;obtain ⟨M0,bR⟩:=zP (au [cN S d x]);rw [←bR]at hS ⊢;refine aP.zA Tryz.func12 ?_;refine ah ?_
 (try clear hS);intro b6 m hS;refine aa7 ?_
 refine RL.cM (lV S d x ep) ?_;clear hS;obtain ⟨l,hl⟩:=zP (dw x);rw [←hl];rintro v m _ ⟨S2,S',rfl⟩ hS;simp only [zC,zN]at hS;obtain ⟨A,c,rfl,hc⟩:=Ev.Own.shape (show Ev.Own m S2 30 2 v l.length (l.flatMap iC) from hS.head);have fQ:=hS.aW (show bf S2 (.slice A l.length c) l∈_ from JQ);have kl:l.length≤maxLen:=by
  obtain ⟨A',c',he,h8,h9⟩:=Js.shape fQ;exact wG h8 h9
 unfold maxLen at kl;refine aa7 ?_;have ret:∀{m:World} {Q:sF} {cs:List Value},cs=aC Q→Tr m0 M0 X m (bf S2 (.slice A l.length c) l::cN S' d x::ab b6 32 cs::[])→Tr m0 M0 X m (cN S' d x::[ab b6 32 (aC Q)]):=fun h h'=>h▸h'.tail
 have fin:∀{m:World} {cs:List Value},Tr m0 M0 X m (cN S' d x::[ab b6 32 cs])→Tr m0 M0 X m [cN S' d x]:=fun h=>(h.perm (.swap ..)).tail
 by_cases h1:at_<0
 ·rw [zW h1];refine ah ?_
  (try clear hS);intro m hS;refine ah ?_
  have hS:=ret (Q:=⟨O0,false⟩) rfl hS;exact QN.bH (bY.cg aa hS rfl rfl rfl rfl JQ) ⟨_,rfl,_,⟨by rw [dJ,yS (.inl h1)];rfl,S',rfl⟩,fin hS⟩
 ·rw [zV h1];refine ah ?_
  by_cases h2:at_>(l.length:Int)
  ·rw [zW h2];refine ah ?_
   (try clear hS);intro m hS;refine ah ?_
   have hS:=ret (Q:=⟨O0,false⟩) rfl hS;exact QN.bH (bY.cg aa hS rfl rfl rfl rfl JQ) ⟨_,rfl,_,⟨by rw [dJ,yS (.inr h2)];rfl,S',rfl⟩,fin hS⟩
  ·rw [zV h2];have L5:¬(at_<0∨at_>(l.length:Int)):=by omega
   refine ah ?_;cases after with
   |true=>
    refine ah ?_
    by_cases h3:at_=0
    ·rw [show(at_==0)=true by rw [h3];rfl];refine ah ?_
     (try clear hS);intro m hS;refine ah ?_
     have hS:=ret (Q:=⟨O0,false⟩) rfl hS;exact QN.bH (bY.cg aa hS rfl rfl rfl rfl JQ) ⟨_,rfl,_,⟨by rw [dJ,zX L5,yS rfl,zX J9];rfl,S',rfl⟩,fin hS⟩
    ·rw [show(at_==0)=false from beq_false_of_ne h3];refine ah ?_;obtain ⟨y,hy⟩:∃y,l[at_.toNat-1]?=some y:=⟨_,xW J9⟩;obtain ⟨ad,rfl,_⟩:=Js.cell fQ (at_.toNat-1) J9;refine RL.indexAddr (k:=at_.toNat-1) aa rfl rfl rfl rfl rfl rfl JY J9 rfl ?_;refine RL.o8 aa iC (fun _=>rfl) fQ hy rfl rfl rfl rfl rfl ?_;refine ah ?_
     (try clear hS);intro m hS;refine ah ?_
     have hS:=ret (Q:=⟨y,true⟩) rfl hS;exact QN.bH (bY.cg aa hS rfl rfl rfl rfl JQ) ⟨_,rfl,_,⟨by rw [dJ,zX L5,yS rfl,yS J9,uB,hy];rfl,S',rfl⟩,fin hS⟩
   |false=>
    refine ah ?_
    by_cases h3:at_<(l.length:Int)
    ·rw [show(at_==(l.length:Int))=false from beq_false_of_ne J9];refine ah ?_;obtain ⟨y,hy⟩:∃y,l[at_.toNat]?=some y:=⟨_,xW J9⟩;obtain ⟨ad,rfl,_⟩:=Js.cell fQ at_.toNat J9;refine RL.indexAddr (k:=at_.toNat) aa rfl rfl rfl rfl rfl rfl J9 J9 rfl ?_;refine RL.o8 aa iC (fun _=>rfl) fQ hy rfl rfl rfl rfl rfl ?_;refine ah ?_
     (try clear hS);intro m hS;refine ah ?_
     have hS:=ret (Q:=⟨y,false⟩) rfl hS;exact QN.bH (bY.cg aa hS rfl rfl rfl rfl JQ) ⟨_,rfl,_,⟨by rw [dJ,zX L5,zX J8,yS h3,uB,hy];rfl,S',rfl⟩,fin hS⟩
    ·rw [show(at_==(l.length:Int))=true by rw [show at_=(l.length:Int) by omega];exact tH _];refine ah ?_
     (try clear hS);intro m hS;refine ah ?_
     have hS:=ret (Q:=⟨O0,true⟩) rfl hS;exact QN.bH (bY.cg aa hS rfl rfl rfl rfl JQ) ⟨_,rfl,_,⟨by rw [dJ,zX L5,zX J8,zX h3];rfl,S',rfl⟩,fin hS⟩
theorem _root_.Go.Ev.bY.Tm{P:Program}{fn:Func}{T:Ty}{n:Nat}{e:Env}{m0 m:World}{M0 X:List Nat}{H:List az}{t u:Tmp}{ty ty2 tb tb2:TypeId}{b b2:Nat}{cs cs2:List Value}(hT:T.Ok P)(hS:Tr m0 M0 X m H)(hr:fn.results=#[.cell t ty,.cell u ty2])(ht:e.get t=some (.pointer (some ⟨b,0,none⟩)))
  (hu:e.get u=some (.pointer (some ⟨b2,0,none⟩)))(KN:T.jB ty=some cs.length)(Uc:T.jB ty2=some cs2.length)(hB:ab b tb cs∈H)(pX:ab b2 tb2 cs2∈H){D:Fr}:bY P fn n e D m (.tuple #[.agg cs.toArray,.agg cs2.toArray]):=by
 intro a w hf hs;obtain ⟨r,iQ,ha,cz⟩:=Ty.ec KN;have h1:=(hT.row iQ).cD (pW.cT ha) w;rw [ha]at h1;have h2:=(hT.row iQ).bX w;rw [cz]at h2;have h3:=run_loadCells_list (P:=P) w ⟨b,0,none⟩ cs (fun j x hx=>(hs.cell _).trans JP);obtain ⟨r2,Bg,Lr,Hn⟩:=Ty.ec Uc;have g1:=(hT.row Bg).cD (pW.cT Lr) w;rw [Lr]at g1;have g2:=(hT.row Bg).bX w;rw [Hn]at g2;have g3:=run_loadCells_list (P:=P) w ⟨b2,0,none⟩ cs2 (fun j x hx=>(hs.cell _).trans (by rw [av,zU];exact bw.cell (hS.mem pX) j hx));simp [results,hr,hf.get t _ ht,hf.get u _ hu,asAddr,loadVar,h1,h2,h3,g1,g2,g3]
theorem Fj(L:List az)(d:Nat)(v:Ac)(c5 c6:Value)(K:List bB)(hd:ab d 50 [v.L,v.K,v.T,v.D,c5,c6,v.Mk,v.V,v.W]∈L)(hk:Bd v.K K∈L)(ep:K.length≤1000000)(c:Nat)(hc:bI K c<10000000000000000):
  r7 Tryz.prog 46 [pA d,.int .u64 c] L (.int .u64 (bI K c+1:Nat)):=by
 intro m0 X hS;have hN:=hd;refine aP.zA Tryz.func46 ?_;refine ah ?_;refine RL.cU (Dq v.K K J9 c) (fun m hS=>?_) (hs:=.ro hk rfl .nil);refine ah ?_;rw [aq ((bI K c:Int)+1) J9 J9];exact QN.aj rfl rfl ⟨_,rfl,_,⟨rfl,rfl⟩,hS⟩
def TF(l L:List aK):Prop:=bb L∧∀c k,ak L c k=ak l c k
def ub(l:List aL)(p:Nat):aL:=if 0<p then l.getD (p-1) O0 else O0
def IX(q:Us)(l:List aL)(p:Nat):Nat:=if 0<p then(q.find (ub l p)+1).toNat else 0
def F8(q:Us)(l:List aL)(p:Nat):aL:=((q.ax[IX q l p]?).getD ⟨O0,O0,O0⟩).id
theorem F5{q:Us}{N:List RM}(cH:dY q (N.map (·.d)))(cP:q.Ok)(i:Nat):qY N q.F.flat i=q.ax[i]?:=by
 cases hu:q.ax[i]?with
 |some u=>exact DB cH cP hu
 |none=>
  rw [Us.ax,xM,Option.map_eq_none_iff]at hu;rw [qY,zX J9,show(i:Int).toNat=i from rfl,hu];rfl
theorem Ga(S:List Nat)(d:Nat)(x:Rx)(v:Value)(S2:List Nat)(l:List aL)(p:Nat)(hp:p≤l.length):bu Tryz.prog 48 [pA d,v,.int .i64 p] [bf S2 v l,cN S d x] (fun r H=>r=.tuple #[iV (ub l p),iV (F8 x.q l p)]∧∃S',H=[bf S2 v l,cN S' d x]):=by
 intro m0 X hS;obtain ⟨M0,bR⟩:=zP (au [bf S2 v l,cN S d x]);rw [←bR]at hS ⊢;obtain ⟨A,c,rfl,hc⟩:=Ev.Own.shape (show Ev.Own _ S2 30 2 v l.length (l.flatMap iC) from hS.head);have fQ:=hS.aW (show bf S2 (.slice A l.length c) l∈_ from JQ);have kl:l.length≤maxLen:=by
  obtain ⟨A',c',he,h8,h9⟩:=Js.shape fQ;exact wG h8 h9
 unfold maxLen at kl;obtain ⟨s,mm,w,z,cH,cP,hle,hS⟩:=F4 (hS.perm (.swap ..));have AF:z.N.length=x.q.us.length:=by rw [←cH.len,uF]
 have kd:=cP.fe;have BZ:=cP.sT;have Ww:∀k∈x.q.F.flat,k<z.N.length:=fun k hk=>by rw [AF];exact (cP.mem k).1 hk
 have hV:x7 (FY d s mm x w z [bf S2 (.slice A l.length c) l]) s z.N x.q.F.flat z.l z.m z.o:=⟨JQ,.inl JQ,.inl JQ⟩;have Su:=cP.pZ (ub l p);have Ux:=u9 _ cP (ub l p);refine aP.zA Tryz.func48 ?_;refine ah ?_
 (try clear hS);intro b6 m hS;refine aa7 ?_
 (try clear hS);intro b7 m hS;refine aa7 ?_
 (try clear hS);intro b8 m hS;refine aa7 ?_
 (try clear hS);intro m hS
 refine aZ ?_;refine RL.N1 ?_;refine QN.N1 ?_;refine WP.cut (X:=Unit) (fun _=>[(0,pA d),(6,pA b6),(7,pA b7),(8,pA b8),(9,.int .i64 (IX x.q l p))]) (fun _ m'=>Tr m0 M0 X m' (ab b8 30 (iC (ub l p))::ab b7 30 (iC O0)::ab b6 30 (iC O0)::FY d s mm x w z [bf S2 (.slice A l.length c) l])) ?_ ?_
 ·refine ah ?_
  by_cases I3:0<p
  ·rw [zW (show(p:Int)>0 by omega)];refine ah ?_;obtain ⟨y,hy⟩:∃y,l[p-1]?=some y:=⟨_,xW J9⟩;have Be:ub l p=y:=by rw [ub,yS I3,uB,hy];rfl
   obtain ⟨ad,rfl,_⟩:=Js.cell fQ (p-1) J9;refine RL.indexAddr (k:=p-1) aa rfl rfl rfl rfl rfl rfl JY J9 rfl ?_;refine RL.o8 aa iC (fun _=>rfl) (hS.aW (show bf S2 (.slice (some ad) l.length c) l∈_ from JQ)) hy rfl rfl rfl rfl rfl ?_;refine ah ?_
   (try clear hS);intro m hS;refine ah ?_
   have hF:∀L,x7 L s z.N x.q.F.flat z.l z.m z.o→r7 Tryz.prog 94 [pA s,iV y] L (.int .i64 (x.q.find y)):=fun L hL=>by
    rw [←w8 cH cP y];exact wu _ s z.N x.q.F.flat z.l z.m z.o hL J9 J9 y
   refine ae2 ?_;refine RH.cL (hF _ hV.cons.cons.cons) fun m hS=>?_
   rw [Be]at Su Ux;have hN:IX x.q l p=(x.q.find y+1).toNat:=by rw [IX,yS I3,Be]
   refine ah ?_;rw [show IntKind.i64.wrap (x.q.find y+1)=((IX x.q l p:Nat):Int) by rw [ag _ J9 J9,hN];omega];exact QN.ar () YC (by rw [Be];exact hS)
  ·rw [zV (show¬(p:Int)>0 by omega)];refine ah ?_;exact QN.ar () (Sub.C1 rfl (Sub.C1 rfl (Sub.C1 rfl (Sub.C1 rfl (Sub.C1 (by rw [IX,zX I3];rfl) Sub.nil))))) (by rw [ub,zX I3];exact hS)
 ·clear hS;rintro _ m hS;refine ah ?_;refine RL.cL (Tl _ s z.N x.q.F.flat z.l z.m z.o hV.cons.cons.cons Ww (IX x.q l p)) fun m hS=>?_
  rw [F5 cH cP];refine ah ?_
  (try clear hS);intro b10 m hS;refine aa7 ?_
  (try clear hS);intro m hS;refine ah ?_
  obtain ⟨u,hu⟩:=zP (x.q.ax[IX x.q l p]?.getD ⟨⟨0,0⟩,⟨0,0⟩,⟨0,0⟩⟩);have hS:Tr m0 M0 X m (ab b10 101 (uC (x.q.ax[IX x.q l p]?.getD ⟨⟨0,0⟩,⟨0,0⟩,⟨0,0⟩⟩))::ab b8 30 (iC (ub l p))::ab b7 30 (iC O0)::ab b6 30 (iC O0)::FY d s mm x w z [bf S2 (.slice A l.length c) l]):=hS;rw [←hu]at hS;refine WP.bG [ab b10 101 (uC u),ab b8 30 (iC (ub l p))] hS JD J7 ?_;refine aZ ?_
  (try clear hS);intro m hS
  refine ae8 ?_;refine aZ ?_
  (try clear hS);intro m hS
  refine ae8 ?_;refine ah ?_;have hS:=(hS.aH (Pre:=ab b6 30 (iC (ub l p))::ab b7 30 (iC u.id)::FY d s mm x w z [bf S2 (.slice A l.length c) l]) JC).drop;have QJ:=hS;obtain ⟨S',hS⟩:=xr (F:=[bf S2 (.slice A l.length c) l]) cH cP hle (hS.tail.tail);exact QN.bH (bY.Tm aa QJ rfl rfl rfl rfl rfl JQ JQ) ⟨_,rfl,_,⟨by rw [F8,hu];rfl,S',rfl⟩,hS.perm (.swap ..)⟩
structure Ed where
 k:Nat
 a:Nat
 n:Nat
 t:List UInt8
 v:Vl
 key:List UInt8
abbrev eC(e:Ed)(vp:Value):List Value:=[.int .i64 e.k,.int .i64 e.a,.int .i64 e.n,.string (str e.t),.int .i64 e.v.k,.int .i64 e.v.n,.float .f64 e.v.f,.string (str e.v.s),.string (str e.key),vp]
abbrev eV(e:Ed)(vp:Value):Value:=.agg (eC e vp).toArray
structure EZ(e:Ed):Prop where
 k:1≤e.k∧e.k≤5
 a:e.a<1000000000
 n:e.n≤4
 t:e.t.length<1000000000
 v:e.v.Ok
 key:e.k=4∨e.k=5→nY e.key
def Kn(K:List bB)(i:aL):Prop:=1≤i.k∧i.k≤bI K i.c∧i.right=true
structure TO(x:Rx):Prop where
 u:∀u∈x.q.ax,Kn x.K u.id
 m:∀o∈x.ML,Kn x.K o.id
 k:∀c,bI x.K c≤9007199254740991
 s:∀o∈x.L,o.st≤9007199254740991
 t:bb x.T
def H6(x:Rx)(c:Nat)(e:Ed)(os:List a6)(ts:List aK):Prop:=
 (∃o,os=[o]∧ts=[]∧Good o∧o.id=⟨c,bI x.K c+1⟩∧(∀i∈o.cY,Kn x.K i)∧(e.k=1→o.k=1∧o.t=e.t∧o.l=ub (dw x) e.a∧o.r=F8 x.q (dw x) e.a))∨
 (e.k=3∧os=[]∧∃l:List aK,TF l ts∧l.length≤4∧∀y∈l,y.t=y.f+1)
structure Rj(x:Rx)(c:Nat)(e:Ed)(o:a6)(long:Nat):Prop where
 len:long=o.n
 le:long≤4096
 pos:1≤long
 st:o.st≤9007199254740992
 id:o.id=⟨c,bI x.K c+1⟩
 V2:o.id.right=true→o.id.k+o.n≤9007199254740992→o.st≤9007199254740991→Good o
 cY:∀i∈o.cY,Kn x.K i
 ins:e.k=1→o.k=1∧o.t=e.t∧o.l=ub (dw x) e.a∧o.r=F8 x.q (dw x) e.a
theorem Pw(l:List UInt8)(h:l≠[]):(nx l).2≤4:=by
 have hl:0<l.length:=List.length_pos_iff.2 h
 by_cases hb:l[0].toNat<128
 ·rw [qD l hl hb];simp
 ·by_cases hL:∃k r low,sQ l[0].toNat k r low
  ·obtain ⟨k,r,low,hL⟩:=hL;rw [vx l hl hL]
   split
   ·show k≤4;rcases hL with h1|h1|h1<;>omega
   ·simp
  ·rw [uw l hl J9 hL];simp
theorem qw:∀(n:Nat) (l:List UInt8) (r:List Nat),l.length≤n→aN l=some r→l.length≤4*r.length
 |0,l,r,h,hr=>by omega
 |n+1,l,r,h,hr=>by
  by_cases hn:l=[]
  ·subst hn;simp
  ·rw [dR l hn]at hr
   split at hr
   ·cases hr
   ·rename_i h1;obtain ⟨r',iQ,rfl⟩:=xN.1 hr;have h4:=Pw l hn;rcases eX l hn with h3|h3
    ·exact absurd h3 h1
    ·have:=qw n _ r' Jp iQ;rw [zZ]at this;simp only [yF];omega
theorem Kn.CD{x:Rx}(hi:TO x)(a:Nat):ub (dw x) a=O0∨Kn x.K (ub (dw x) a):=by
 unfold ub
 split
 ·rename_i h;rcases xA (a-1) (dw x).length with h1|h1
  ·right;rw [uB,xW h1,uD];have h2:=vF h1;generalize (dw x)[a-1]=y at h2;rw [dw,vE]at h2;obtain ⟨u,hu,rfl⟩:=h2;exact hi.u u (yY.1 hu).1
  ·left;rw [uB,tK h1];rfl
 ·exact .inl rfl
theorem Kn.yy{x:Rx}(hi:TO x)(l:List aL)(a:Nat):F8 x.q l a=O0∨Kn x.K (F8 x.q l a):=by
 unfold F8;cases h:x.q.ax[IX x.q l a]?with
 |none=>exact .inl rfl
 |some u=>exact .inr (hi.u u (xU h))
theorem nl{K:List bB}{o:a6}{c:Nat}(hid:o.id=⟨c,bI K c+1⟩)(_hr:o.id.right=true)(h:∀i∈o.names,i=O0∨Kn K i):(∀i∈o.names,named i=true)∧(∀i∈o.names,¬(i.c=o.id.c∧o.id.k≤i.k∧i.k<o.id.k+o.n)):=by
 constructor
 ·intro i hi;rcases h i hi with rfl|hk
  ·rfl
  ·simp [named,hk.2.2]
 ·rintro i hi ⟨h1,h2,_⟩;rw [hid]at h1 h2 _hr;rcases h i hi with rfl|⟨_,hk,_⟩
  ·simp only [O0]at h2;omega
  ·simp only at h1 h2;rw [h1]at hk;omega
theorem nh{K:List bB}{o:a6}(h:∀i∈o.names,i=O0∨Kn K i):∀i∈o.cY,Kn K i:=fun i hi=>by
 obtain ⟨h1,h2⟩:=yY.1 hi;rcases h i h1 with rfl|hk
 ·simp at h2
 ·exact hk
theorem Gv{l:List a6}{M:Nat}(h:∀o∈l,o.st≤M):IN l≤M:=by
 have key:∀(l:List a6) (a:Nat),a≤M→(∀o∈l,o.st≤M)→l.foldl (fun m o=>max m o.st) a≤M:=by
  intro l
  induction l with
  |nil=>intro a h _;exact h
  |cons y l ih=>intro a h1 h2;exact ih _ (Nat.max_le.2 ⟨h1,h2 y (zS ..)⟩) fun o ho=>h2 o (zO _ ho)
 exact key l 0 (yI _) h
theorem Eg(v:Value)(l:List aK)(hl:l.length<1000000000)(id:aL):ee Tryz.prog 52 [v,iV id] [gh v l] (.int .u64 (ak l id.c id.k)):=by
 intro m X hS;refine (kF m v l (Sl.less hS.head.1 (fun k hk=>by cases hk) J9) hl id).mono ?_;rintro r m' ⟨h1,h2⟩;exact ⟨_,⟨h1,rfl⟩,(hS.calm h2).tail⟩
theorem F2(v:Value)(l:List aK)(hl:l.length≤5000):bu Tryz.prog 53 [v] [gh v l] (fun r H=>∃L S,TF l L∧H=[aF S 122 4 r L.length (L.flatMap tC)]):=by
 intro m X hS;have hq:=Nat.mul_le_mul hl (show 2*l.length≤2*5000 by omega);refine (mG m v l (hS.bE (show gh v l∈_ from JQ)) J9).mono ?_;rintro r m' ⟨L,hL,S,h1,h2⟩;exact ⟨_,⟨L,S,⟨hL.1,fun c k=>by rw [hL.2.1,ky]⟩,rfl⟩,Tr.drop (H:=[_]) (hS.made h1 h2)⟩
abbrev PF(d s mm:Nat)(x:Rx)(v:Ac)(F:List az):List az:=ab d 50 [v.L,v.K,v.T,v.D,pA s,pA mm,v.Mk,v.V,v.W]::dO v.L x.L::Bd v.K x.K::gh v.T x.T::qk v.D x.D::dO v.Mk x.Mk::qk v.V x.V::dO v.W x.W::cQ s x.q::F
def D9(c k:Nat):a6:=⟨⟨c,k⟩,0,0,O0,O0,[],.zero,[],O0,⟨O0,false⟩,⟨O0,false⟩⟩
end Go.Proofs.YtgpgladbdoimdaaGreatDoor
