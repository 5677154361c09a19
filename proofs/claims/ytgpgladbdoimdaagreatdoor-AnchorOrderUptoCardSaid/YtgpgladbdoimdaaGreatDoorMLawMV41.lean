/- Texts that belong together. -/
import Derived.Test.YtgpgladbdoimdaaGreatDoorMLawMV22
import Derived.Test.YtgpgladbdoimdaaGreatDoorMLawMV40
namespace Go.Proofs.YtgpgladbdoimdaaGreatDoor
open Go.ChangeShapes Go.WideShapes Go.ChangeAt Go.RowKit Go.Ev Go.Ids Go.SeqP
set_option maxRecDepth 20000
set_option maxHeartbeats 12000000
structure P6(x x':Dx)(o:a6):Prop where
 k:∀c,eH x'.es c=if o.id.c=c then nU (o.id.k+o.n-1)else eH x.es c
 q:x'.q.toUs=if o.k=1∨o.k=2 then x.q.run (oU o) o.n else x.q.toUs
 tr:x'.q.tr=true
 B:x'.B=x.B+1
 T:x'.T=x.T
 D:x'.D=x.D
 W:x'.W=x.W
 h:x'.h=x.h
 V:x'.V.length≤x.V.length+1
 M:x'.M.length≤x.M.length+1
 nm:x'.nm≤x.nm+1
theorem Ly(d:Nat)(x:Dx)(o:a6)(g:Good o)(ht:x.q.tr=true)(hq:x.q.Ok)(ep:x.q.us.length+o.n≤1000000)(hB:x.B<10000)(hV:x.V.length<1000000)(hM:x.M.length<1000000)(hm:x.nm<1000000):
  bu Tryz.prog 127 [pA d,oV o] (aw::bC d x []) (fun _ H=>∃x',P6 x x' o∧H=bC d x' []):=by
 intro m0 X hS;obtain ⟨M0,bR⟩:=zP (au (aw::bC d x []));rw [←bR]at hS ⊢;have hid:=g.id;simp only [aL.right,num,wR,vY]at hid;have B6:=g.top;have hn:=g.gq;dsimp only [bC]at hS;refine aP.zA Tryz.func127 ?_;refine go ?_;refine RL.bn hS rfl rfl rfl ?_;(try clear hS);intro b3 m hS;refine ⟨_,rfl,?_⟩;refine aR ?_;refine WP.bG [ab b3 55 (oC o),aw,IS d x] hS JD J7 ?_;refine aR ?_;refine zL (RC x.S1 x.s x.B hB o g) ?_;clear hS;rintro v m _ ⟨S1,rfl⟩ hS;simp only [zC,zN]at hS;refine ⟨by simp only [zC,zN];exact JD,_,rfl,?_⟩;refine aR ?_;refine zJ (mX o g) (fun m hS=>?_);refine aR ?_;refine RL.aU aa rfl hS rfl rfl ?_;(try clear hS);intro b4 m hS;refine ⟨_,rfl,?_⟩;refine aR ?_;refine RL.er aa hS rfl rfl rfl rfl rfl YB YB JN YB ?_;(try clear hS);intro m hS;have hS:Tr m0 M0 X _ (ab b4 167 (iR o)::pN S1 x.s (x.B+1)::ab b3 55 (oC o)::aw::IS d x::_):=hS;refine go ?_;have hw:IntKind.u64.wrap (((o.id.k+o.n:Nat):Int)-1)=((o.id.k+o.n-1:Nat):Int):=by rw [aq _ J9 J9];omega
 rw [hw];refine RH.fD (k:=o.id.c) (v:=nU (o.id.k+o.n-1)) aa hS qG rfl J7 rfl rfl rfl rfl rfl rfl rfl JQ JN rfl J7 ?_;clear hS;intro m hS;refine QN.calm ?_;refine go ?_;obtain ⟨z,hz⟩:∃z:Nat,(if(o.st:Int)>(x.st:Int)then(o.st:Int)else(x.st:Int))=(z:Int):=by
  split
  ·exact ⟨_,rfl⟩
  ·exact ⟨_,rfl⟩
 rw [hz];refine ab2 ?_;refine aa4 ?_;(try clear hS);intro m hS;refine ab9 ?_;refine aR ?_;have hS:=hS.aH (Pre:=aw::bC d {x with S1:=S1,B:=x.B+1,es:=cI x.es o.id.c (nU (o.id.k+o.n-1)),st:=z} []) JC;refine RL.dr (fi:=[]) (ca:=[]) hS (NI d {x with S1:=S1,B:=x.B+1,es:=cI x.es o.id.c (nU (o.id.k+o.n-1)),st:=z} o g ht hq ep hM hm) rfl rfl rfl rfl (bk.front _ _) ?_;clear hS;rintro _ m _ ⟨⟨hr,rfl⟩,x',hd,rfl⟩ hS;obtain ⟨e1,e2,e3,e4,e5,e6,e7,e8,e9,e10,e11⟩:=hd;simp only [bC,zC,zN]at hS;refine ⟨_,rfl,?_⟩;refine aR ?_;have hL:∀(S7:List Nat) (vv:Value) (V:List aG),V.length≤x.V.length+1→P6 x {x' with S7:=S7,vv:=vv,V:=V} o:=fun S7 vv V hv=>
  ⟨fun c=>by simp only [eH,e1,lR];split<;>rfl,e2,e3,e4,e5,e6,e7,e8,hv,e10,e11⟩
 have Y6:aw∈[ab b4 167 (iR o),ab b3 55 (oC o),aw]:=by simp
 cases hr with
 |true=>
  refine go ?_;refine QN.kg rfl ⟨_,rfl,_,⟨_,hL x'.S7 x'.vv x'.V (by rw [e9];exact wA _),rfl⟩,?_⟩;dsimp only [bC];exact (hS.aH JB).drop
 |false=>
  refine go ?_;refine ab2 ?_;refine RL.aA aa hS [.tmp 41] (us:=[.agg (iR o).toArray]) (iR o) rfl rfl rfl rfl rfl rfl JO rfl rfl rfl ?_;clear hS;intro b7 m hS;refine aa1 ?_;refine RL.N1 (RH.aD hS (an.ay (fun a ha=>zO _ ha)) ?_);refine go ?_;have hv9:x'.V.length=x.V.length:=by rw [e9]
  refine RH.iN (fi:=[]) (ca:=[]) hS (Fy x'.S7 [b7] x'.vv _ x'.V [oR o] J6) rfl J7 rfl rfl rfl rfl rfl JC ?_;clear hS;rintro v8 m _ ⟨S8,rfl⟩ hS;simp only [zC,zN]at hS;obtain ⟨A8,c8,rfl,_⟩:=Ev.Own.shape (show Ev.Own m S8 167 3 v8 _ _ from hS.head);refine af2 ?_;refine go ?_;refine ab2 ?_;refine aa4 ?_;(try clear hS);intro m hS;refine ab9 ?_;refine go ?_;have hl:(join x'.V [oR o]).length≤x.V.length+1:=wG (eM _) J6;refine QN.kg rfl ⟨_,rfl,_,⟨_,hL S8 (.slice A8 (join x'.V [oR o]).length c8) (join x'.V [oR o]) hl,rfl⟩,?_⟩;dsimp only [bC];exact (hS.aH JC).drop
abbrev IV(b2:Nat)(f:Bool)(b1 d:Nat)(x:Dx)(F:List az):List az:=ab b2 4 [.bool f]::ab b1 24 [pA d]::aw::bC d x F
theorem He(d bx:Nat)(L pre:List a6)(x:Dx)(C A B:az)(F:List az)(hn:∀c,∃n,eH x.es c=nU n)(h1:pre=[]→x.h=L.map oR)
  (h2:∀o,L[pre.length]?=some o→x.W=[(o.id,oV o)]∧eH x.es o.id.c=nU (o.id.k-1)∧∀i∈o.cY,∃n,eH x.es i.c=nU n∧i.k≤n)(h3:L.length≤pre.length→x.W=[]):
  Vd d bx L pre (C::ab bx 24 [pA d]::A::B::aw::bC d x F):=
 ⟨x.es,x.W,x.h,pA x.s,x.rk,x.vt,x.vd,x.rw,x.vh,pA x.sq,.map (some x.ru),x.vm,pA x.mm,x.vv,nU x.st,x.S4,⟨YA,YA,YA,YA,YA,YA,hn⟩,h1,h2,h3⟩
theorem G3{m0 m:World}{M0 X:List Nat}{A T B C:List az}(h:Tr m0 M0 X m (A++(T++(B++C)))):Tr m0 M0 X m (C++(A++B)):=by
 refine Tr.drop (F:=T) (h.perm ?_);refine ((xI (l₁:=T) (l₂:=B++C)).append_left A).trans ?_;rw [←wM,←wM];exact (xI).append_right T
theorem lF{m0 m:World}{M0 X:List Nat}{A T B:List az}(h:Tr m0 M0 X m (A++(T++B))):Tr m0 M0 X m (A++B):=by
 refine Tr.drop (F:=T) (h.perm ?_);rw [wM];exact (xI).append_left A
structure Ra(x:Dx)(o:a6):Prop where
 g:Good o
 ep:x.q.us.length+o.n≤1000000
 h:x.h=[oR o]
 W:x.W=[(o.id,oV o)]
 c:eH x.es o.id.c=nU (o.id.k-1)
 n:∀i∈o.cY,∃n,eH x.es i.c=nU n∧i.k≤n
theorem Iu(d:Nat)(x:Dx)(F:Dx→Prop)(ht:x.q.tr=true)(hq:x.q.Ok)(hB:x.B<10000)(hV:x.V.length<1000000)(hM:x.M.length<1000000)(hm:x.nm<1000000)(hn:∀c,∃n,eH x.es c=nU n)
  (hF:∀y,F y→y.W=[]∧y.h=[]∧∀c,∃n,eH y.es c=nU n)(hx:F x∨∃o,Ra x o∧∀x',P6 {x with W:=[],h:=[]} x' o→F x'):
  bu Tryz.prog 67 [pA d] (aw::bC d x []) (fun _ H=>∃x',F x'∧H=bC d x' []):=by
 intro m0 X hS;obtain ⟨M0,bR⟩:=zP (au (aw::bC d x []));rw [←bR]at hS ⊢;obtain ⟨st0,hle,iw,VW⟩:∃st0:Nat,st0≤1∧(st0=0→∃o,Ra x o∧∀x',P6 {x with W:=[],h:=[]} x' o→F x')∧(1≤st0→F x):=by
  rcases hx with h|h
  ·exact ⟨1,yP _,fun h'=>absurd h' J8,fun _=>h⟩
  ·exact ⟨0,yI _,fun _=>h,fun h'=>absurd h' J8⟩
 refine aP.zB Tryz.func67 ?_;refine aR ?_;refine ac8 ?_;(try clear hS);intro b1 m hS;refine ac9 ?_;refine ac3 ?_;(try clear hS);intro b2 m hS;refine ac9 ?_;refine aa4 ?_;(try clear hS);intro m hS;refine aR ?_;have so:decide (st0<2)=true:=zW J9;refine (WP.QH (X:=Nat×Nat×Dx×List (Nat×Loop)) (fun z=>[(1,pA b1),(2,pA z.2.1)]) (fun z=>marks z.2.2.2)
  (fun z m'=>(z.1=0→st0=0∧z.2.2.1=x)∧(1≤z.1→F z.2.2.1)∧Tr m0 M0 X m' (IV z.2.1 (decide (z.1<2)) b1 d z.2.2.1 (FZ z.2.2.2))) (fun z=>2-z.1) (st0,b2,x,[]) rfl
  YC ⟨fun h=>⟨h,rfl⟩,VW,by dsimp only;rw [so];exact hS⟩ ?_)
 clear hS;rintro ⟨st,b2,y,Bs⟩ m ⟨h0,h1,hS⟩;dsimp only at h0 h1 hS ⊢;refine aR ?_;rcases xA st 2 with aM|fW
 ·have hd:decide (st<2)=true:=zW aM;rw [hd]at hS ⊢;refine aR ?_;refine RL.aO aa hS rfl rfl rfl rfl YB YB JN YB ?_;(try clear hS);intro m hS;refine aR ?_;refine zG (Ll d) ?_;clear hS;rintro _ m _ ⟨bx,rfl,rfl⟩ hS;have hS:Tr m0 M0 X m (ab bx 24 [pA d]::IV b2 false b1 d y (FZ Bs)):=hS;refine ⟨_,rfl,?_⟩;refine aR ?_;rcases (show st=0∨st=1 by omega)with rfl|rfl
  ·obtain ⟨YZ,rfl⟩:=h0 rfl;obtain ⟨o,⟨g,ep,hh,hW,hc,qv⟩,pK⟩:=iw YZ;refine WP.jt (β:=Nat) (fun o:a6=>[oV o]) rfl (B8 d bx o g) ⟨_,Tryz.func162,J7,J7⟩ hS
    (fun pre H=>(pre=[]∧H=ab bx 24 [pA d]::IV b2 false b1 d y (FZ Bs))∨(pre=[o]∧∃x',P6 {y with W:=[],h:=[]} x' o∧H=ab bx 24 [pA d]::IV b2 true b1 d x' (FZ Bs))) (fun _ _ _=>False) (.inl ⟨rfl,rfl⟩) ?_ _ (fun _=>rfl) (fun _=>rfl)
    (fun o b=>[(1,pA b1),(2,pA b2),(3,pA b)]) (fun o b G=>G=[ab b 55 (oC o)]) ?_ ?_ ?_ ?_
   ·rintro pre H C (⟨rfl,rfl⟩|⟨rfl,x',hL,rfl⟩)
    ·exact He d bx [o] [] y C _ _ _ hn (fun _=>hh) (fun o' ho=>by
      cases ho;exact ⟨hW,hc,qv⟩) (fun h=>by simp at h)
    ·exact He d bx [o] [o] x' C _ _ _ (fun c=>by
      rw [hL.k c]
      split
      ·exact ⟨_,rfl⟩
      ·exact hn c) (fun h=>by simp at h) (fun o' ho=>by simp at ho) (fun _=>hL.W)
   ·intro l C pre x G m1 H1 _ _ hS;refine ai5 ?_;(try clear hS);intro b m hS;(try clear hS);intro m hS;refine aR ?_;exact QN.qE b _ YC hS rfl
   ·rintro l C pre z b _ G m2 _ hI ⟨rfl,hz⟩ rfl hS;have hz:=hz.symm;subst hz;rcases hI with⟨_,rfl⟩|⟨hh,_⟩
    ·have hS:=hS.mK;simp only [zC,zN]at hS;rw [hh,hW]at hS;refine aR ?_;refine go ?_;refine RH.one rfl J7 rfl ?_;refine RL.delete (k:=o.id) (es:=[(o.id,oV o)]) aa hS ko rfl rfl rfl rfl rfl JQ JN rfl ?_;clear hS;intro m hS;have Y9:mn [(o.id,oV o)] o.id=[]:=by simp [mn]
     rw [Y9]at hS;refine ab9 ?_;refine aR ?_;refine WP.nM [ab b 55 (oC o),ab b1 24 [pA d],IS d y,aw] hS JD rfl J7 ?_;refine aR ?_;refine zK (mX o g) (fun m hS=>?_);refine aR ?_;refine ab2 ?_;refine RL.aA aa hS [.tmp 20] (us:=[.agg (iR o).toArray]) (iR o) rfl rfl rfl rfl rfl rfl JO rfl rfl rfl ?_;clear hS;intro b7 m hS;refine aa1 ?_;refine ae8 ?_;refine aR ?_;refine RH.iN (fi:=[]) (ca:=[]) hS (CU y.S4 [b7] y.vh _ [oR o] [oR o] YA YA YA) rfl J7 rfl rfl rfl rfl rfl JC ?_;clear hS;rintro v8 m _ ⟨S8,rfl⟩ hS;simp only [zC,zN,B5]at hS;obtain ⟨A8,c8,rfl,_⟩:=Ev.Own.shape (show Ev.Own m S8 167 3 v8 [].length ([].flatMap rC) from hS.head);refine af2 ?_;refine aR ?_;refine ab2 ?_;refine aa4 ?_;(try clear hS);intro m hS;refine ab9 ?_;refine aR ?_;have hS:=hS.aH (Pre:=aw::bC d {y with W:=[],h:=[],S4:=S8,vh:=.slice A8 0 c8} []) JC;refine RL.dr (fi:=[]) (ca:=[]) hS (Ly d {y with W:=[],h:=[],S4:=S8,vh:=.slice A8 0 c8} o g ht hq ep hB hV hM hm) rfl rfl rfl rfl (bk.front _ _) ?_;clear hS;rintro _ m _ ⟨x',hL,rfl⟩ hS;have Zn:P6 {y with W:=[],h:=[]} x' o:=⟨hL.k,hL.q,hL.tr,hL.B,hL.T,hL.D,hL.W,hL.h,hL.V,hL.M,hL.nm⟩;simp only [bC,zC,zN]at hS;refine ⟨_,rfl,?_⟩;refine aR ?_;refine RL.aO aa hS rfl rfl rfl rfl YB YB JN YB ?_;(try clear hS);intro m hS;refine aR ?_;have hS:=hS.aH (Pre:=C::ab bx 24 [pA d]::IV b2 true b1 d x' []) JC;exact QN.fY (H':=ab bx 24 [pA d]::IV b2 true b1 d x' (FZ Bs)) (G3 (T:=[_,_,_,_]) (A:=C::ab bx 24 [pA d]::IV b2 true b1 d x' []) hS) (.inr ⟨rfl,x',Zn,rfl⟩)
    ·cases hh
   ·rintro B r xs m' _ rfl hI hS;rcases hI with⟨hh,_⟩|⟨_,x',hL,rfl⟩
    ·cases hh
    ·refine aR ?_;refine ac3 ?_;(try clear hS);intro b4 m hS;refine ac9 ?_;refine aa4 ?_;(try clear hS);intro m hS;refine aR ?_;have hS:=hS.aH (Pre:=ab b4 4 [.bool true]::ab b1 24 [pA d]::aw::bC d x' [lJ B r]) JC;exact QN.Ib (1,b4,x',(B,r)::Bs) rfl YC ⟨fun h=>(by cases h),fun _=>pK _ hL,lF (B:=FZ Bs) (T:=[_,_,_]) hS⟩ J0
   ·exact fun _ _ _ _ _ _ h _=>h.elim
  ·have hL:=h1 (yP _);obtain ⟨eW,eh,en⟩:=hF _ hL;refine WP.jt (β:=Nat) (fun o:a6=>[oV o]) rfl (Cq d bx) ⟨_,Tryz.func162,J7,J7⟩ hS
    (fun pre H=>pre=[]∧H=ab bx 24 [pA d]::IV b2 false b1 d y (FZ Bs)) (fun _ _ _=>False) ⟨rfl,rfl⟩ ?_ _ (fun _=>rfl) (fun _=>rfl)
    (fun o b=>[]) (fun o b G=>True) ?_ ?_ ?_ ?_
   ·rintro pre H C ⟨rfl,rfl⟩;exact He d bx [] [] y C _ _ _ en (fun _=>eh) (fun o' ho=>by simp at ho) (fun _=>eW)
   ·exact fun _ _ _ _ _ _ _ _ h _=>h.elim
   ·exact fun _ _ _ _ _ _ _ _ _ _ h _ _=>h.elim
   ·rintro B r xs m' _ rfl ⟨_,rfl⟩ hS;refine aR ?_;refine ac3 ?_;(try clear hS);intro b4 m hS;refine ac9 ?_;refine aa4 ?_;(try clear hS);intro m hS;refine aR ?_;have hS:=hS.aH (Pre:=ab b4 4 [.bool false]::ab b1 24 [pA d]::aw::bC d y [lJ B r]) JC;exact QN.Ib (2,b4,y,(B,r)::Bs) rfl YC ⟨fun h=>(by cases h),fun _=>hL,lF (B:=FZ Bs) (T:=[_,_,_]) hS⟩ J0
   ·exact fun _ _ _ _ _ _ h _=>h.elim
 ·have hd:decide (st<2)=false:=zV J9;rw [hd]at hS ⊢;refine aR ?_;refine WP.exit ?_;refine YF ?_;refine QN.Ko (.inr rfl) (H:=IV b2 false b1 d y []) ?_ fun m' hS=>⟨bY.none rfl,_,rfl,_,⟨y,h1 J9,rfl⟩,hS.tail.tail.tail⟩
  exact hS.perm (xI (l₁:=IV b2 false b1 d y []) (l₂:=FZ Bs))
abbrev P3(d:Nat)(x:Dx)(F:List az):List az:=
 ab d 147 [pA x.s,.map (some x.rk),x.vt,x.vd,.map (some x.rw),x.vh,pA x.sq,.map (some x.ru),x.vm,pA x.mm,x.vv,nU x.st]::pN x.S1 x.s x.B::mapA x.rk nU x.es::sw x.S2 x.vt x.T::df x.S3 x.vd x.D::mapA x.rw iV x.W::df x.S4 x.vh x.h::mapA x.ru iV x.E::lY x.S6 x.vm x.M::df x.S7 x.vv x.V::pS x.S8 x.mm x.nm::F
abbrev Xv(q:Sq)(s ra rt:Nat)(fr:Bool)(at_:List (aL×Value))(ord ro:Rw):List az:=[ab s 175 [.map (some ra),ord.v,ro.v,.map (some rt),.bool fr],mapA ra iV q.fq,mapA rt iV at_,ord.A,ro.A]
theorem Og(d:Nat)(x:Dx)(ht:x.q.tr=true):bu Tryz.prog 40 [pA d] (bC d x []) (fun r H=>∃S2 s2 S5 ad,r=pA s2∧H=gS S2 s2 (mC x.q.ax ad)::bC d {x with S5:=S5} []):=by
 intro m0 X hS;obtain ⟨M0,bR⟩:=zP (au (bC d x []));rw [←bR]at hS ⊢;dsimp only [bC]at hS;refine aP.zA Tryz.func40 ?_;refine aR ?_;refine zD (Eu x.S5 x.sq x.q ht) ?_;clear hS;rintro _ m _ ⟨S1,S2,s2,ad,rfl,rfl⟩ hS;simp only [zC,zN]at hS;refine ac9 ?_;refine QN.aj rfl rfl ⟨_,rfl,_,⟨S2,s2,S1,ad,rfl,rfl⟩,?_⟩;dsimp only [bC];exact (hS.aH JB).drop
theorem PI(d:Nat)(x:Dx)(hl:x.D.length<1000000000):bu Tryz.prog 42 [pA d] (bC d x []) (fun r H=>r.oneCell'=true∧H=bW 3 r (x.D.flatMap rC)::bC d x []):=by
 intro m0 X hS;obtain ⟨M0,bR⟩:=zP (au (bC d x []));rw [←bR]at hS ⊢;refine aP.zA Tryz.func42 ?_;refine aR ?_;refine zM (kv m0 x.vd x.D (hS.aW (show df x.S3 x.vd x.D∈bC d x [] from by simp)) hl) ?_;rintro r m' ⟨hr,hE,U5⟩;have hS:=oq hS hr hE;refine ⟨_,rfl,?_⟩;refine aR ?_;exact QN.aj rfl rfl ⟨_,rfl,_,⟨U5,rfl⟩,hS⟩
theorem I9(d:Nat)(x:Dx)(hD:Canon x.D)(Ob:x.D.length≤1000000):bu Tryz.prog 21 [pA d] (bC d x []) (fun r H=>∃S S5,H=bf S r ((im x.D x.q.ax).map (·.2.id))::bC d {x with S5:=S5} []):=by
 intro m0 X hS;obtain ⟨M0,bR⟩:=zP (au (bC d x []));rw [←bR]at hS ⊢;have hS:=(hS.aH (Pre:=a7 x.S5 x.sq x.q::P3 d x []) JB).drop;obtain ⟨ra,rt,fr,at_,ord,ro,N,k,hS⟩:=bl hS;refine aP.zB Tryz.func21 ?_;refine aR ?_;refine RL.aU aa rfl hS rfl rfl ?_;(try clear hS);intro b3 m hS;refine ⟨_,rfl,?_⟩;have hS:=hS.empty 30 2 none;refine aR ?_;refine zG (OC d) ?_;clear hS;rintro _ m _ ⟨b1,rfl,rfl⟩ hS;simp only [zC,zN]at hS;refine ⟨_,rfl,?_⟩;refine aR ?_;have hS:=hS.perm (.swap ..);refine WP.jt (β:=Nat) (fun x:Nat×Un=>[.int .i64 x.1,uV x.2]) rfl (LC d b1 x.D x.q (pA x.s) (.map (some x.rk)) x.vt x.vd (.map (some x.rw)) x.vh x.sq [.map (some x.ru),x.vm,pA x.mm,x.vv,nU x.st] x.S3 (.map (some ra)) ro.v (.map (some rt)) (.bool fr) ord (by rw [k.ok.fe];exact k.ep) (fun L id hV=>Pk d L x.D hD Ob _ _ _ _ _ _ id hV)) ⟨_,Tryz.func131,J7,J7⟩ hS
  (fun pre H=>pre=(im x.D x.q.ax).take pre.length∧∃S v,H=bf S v (pre.map (·.2.id))::ab b1 24 [pA d]::ab b3 37 [v]::fU x.q x.sq ra rt fr at_ ord ro N (P3 d x []))
  (fun _ _ _=>False) ⟨rfl,[],_,rfl⟩ ?_ _ (fun _=>rfl) (fun _=>rfl)
  (fun x b=>[(0,pA d),(3,pA b3),(5,pA b)]) (fun x b G=>G=[ab b 101 (uC x.2)]) ?_ ?_ ?_ ?_
 ·rintro pre H C ⟨_,S,v,rfl⟩;refine ⟨YA,⟨YA,YA⟩,YA,YA,k.o,fun i hi=>?_⟩;obtain ⟨d,_,h2,h3,h4⟩:=k.l.get ((k.ok.mem i).1 hi);exact ⟨d.p,d.rl.v,d.rr.v,d.sz,h3▸h4▸(by simp [(bc h2).1]:d.A∈_)⟩
 ·intro l C pre x G m1 H1 _ _ hS;refine ai5 ?_;(try clear hS);intro b m hS;(try clear hS);intro m hS;refine aR ?_;exact QN.qE b _ YC hS rfl
 ·rintro l2 C pre y b _ G m2 _ ⟨hp,S,v,rfl⟩ hy rfl hS;have hS:=hS.mK;simp only [zC,zN]at hS;have aM:pre.length<1000000:=by
   have h1:=(yV.1 hy).1;have h2:(im x.D x.q.ax).length≤x.q.ax.length:=wG (xD _ _) (by simp [lW]);have h3:=k.ep;rw [k.ok.sT]at h2;omega
  have CF:(pre.map fun x:Nat×Un=>x.2.id).length=pre.length:=uF ..;refine aR ?_;refine RL.dh aa hS [.tmp 12] (iC y.2.id) rfl rfl rfl rfl rfl rfl rfl rfl rfl rfl (.tail (.tail .head)) JO (Ig _) (by rw [CF];unfold maxLen;omega) (by rw [CF];show(_+_)*16≤_;omega) ?_;clear hS;intro b' v' m S' hS;have e:aF S' 30 2 v' ((pre.map fun x:Nat×Un=>x.2.id).length+1) ((pre.map fun x:Nat×Un=>x.2.id).flatMap iC++iC y.2.id)=bf S' v' ((pre++[y]).map fun x:Nat×Un=>x.2.id):=by simp [bf]
  have hS:Tr m0 M0 X m (aF S' 30 2 v' ((pre.map fun x:Nat×Un=>x.2.id).length+1) ((pre.map fun x:Nat×Un=>x.2.id).flatMap iC++iC y.2.id)::_):=hS;rw [e]at hS;obtain ⟨A,c,iI,_⟩:=Ev.Own.shape (show Ev.Own m S' 30 2 v' _ _ from hS.head);subst iI;refine ⟨_,rfl,?_⟩;refine aR ?_;refine RL.aO aa hS rfl rfl rfl rfl YB YB JN YB ?_;(try clear hS);intro m hS;refine aR ?_;obtain ⟨v',iI⟩:=zP (Value.slice A ((pre++[y]).map fun x:Nat×Un=>x.2.id).length c);rw [←iI]at hS;simp only [List.set_cons_zero]at hS;have hS:=hS.aH (Pre:=C::bf S' v' ((pre++[y]).map fun x:Nat×Un=>x.2.id)::ab b1 24 [pA d]::ab b3 37 [v']::Xv x.q x.sq ra rt fr at_ ord ro) JB;exact QN.fY (H':=bf S' v' ((pre++[y]).map fun x:Nat×Un=>x.2.id)::ab b1 24 [pA d]::ab b3 37 [v']::fU x.q x.sq ra rt fr at_ ord ro N (P3 d x [])) (G3 (T:=[_]) (A:=C::bf S' v' ((pre++[y]).map fun x:Nat×Un=>x.2.id)::ab b1 24 [pA d]::ab b3 37 [v']::Xv x.q x.sq ra rt fr at_ ord ro) (B:=eZ N++P3 d x []) hS) ⟨by rw [zY,uW,wB,hy,←hp];rfl,S',v',rfl⟩
 ·rintro B r xs m' _ hl ⟨hp,S,v,rfl⟩ hS;refine aR ?_;have hx:xs=im x.D x.q.ax:=by rw [hp,hl,wF]
  refine QN.jq (r:=v) (.inl rfl) hS (fun m' hS=>?_);have hS:=hS.perm (xI (l₁:=[_,_,_]));obtain ⟨S5,hS⟩:=a8 k (F:=P3 d x [bf S v (xs.map fun x:Nat×Un=>x.2.id),ab b1 24 [pA d],ab b3 37 [v]]) (by simpa only [fU,P3,yB,wM,yC]using hS);refine ⟨bY.tmp rfl rfl,_,rfl,_,⟨S,S5,rfl⟩,?_⟩;rw [←hx];dsimp only [bC];exact (hS.aH JB).drop
 ·exact fun _ _ _ _ _ _ h _=>h.elim
def ka(us:List Un):Us:=⟨us,Ch 0 us.length⟩
def kP(us:List Un)(a:sF):Int×Bool:=
 if a.id=O0 then(if a.b then(us.length:Int)else 0,true)else if(ka us).find a.id<0 then(0,false)else((ka us).find a.id+if a.b then 1 else 0,true)
theorem u9(q:Us)(h:q.Ok)(id:aL):-1≤q.find id∧q.find id≤q.us.length:=by
 unfold Us.find;cases hi:q.idx id with
 |none=>simp
 |some i=>
  have:=h.lk (Us.ba hi).1;simp only;omega
theorem Q0(S:List Nat)(s:Nat)(us:List Un)(ad:List Nat)(a:sF)(cP:(ka us).Ok)(ep:us.length≤1000000):bu Tryz.prog 41 [pA s,aV a] [gS S s (mC us ad)] (fun r H=>r=.tuple #[.int .i64 (kP us a).1,.bool (kP us a).2]∧∃S',H=[gS S' s (mC us ad)]):=by
 intro m0 X hS;have Su:(mC us ad).find a.id=(ka us).find a.id:=rfl;have hfb:=u9 _ cP a.id;have BZ:(ka us).us.length=us.length:=rfl;refine aP.zA Tryz.func41 ?_;refine aR ?_;refine RL.bn hS rfl rfl rfl ?_;(try clear hS);intro b3 m hS;refine ⟨_,rfl,?_⟩;refine aR ?_;refine RL.binOp (cX a.id ⟨0,0⟩) (aY _ _ _ _ _) rfl rfl rfl rfl ?_
 by_cases h0:a.id=O0
 ·rw [zW (show a.id=⟨0,0⟩ from h0)];refine aR ?_;cases hb:a.b with
  |true=>
   refine aR ?_;refine zD (O5 S s (mC us ad)) ?_;clear hS;rintro _ m _ ⟨rfl,S',rfl⟩ hS;refine ac9 ?_;exact QN.dW rfl rfl rfl ⟨_,rfl,_,⟨by rw [kP,yS h0,hb];rfl,S',rfl⟩,Tr.drop (H:=[_]) hS⟩
  |false=>
   refine aR ?_;exact QN.dW rfl rfl rfl ⟨_,rfl,_,⟨by rw [kP,yS h0,hb];rfl,S,rfl⟩,hS.tail⟩
 ·rw [zV (show¬a.id=⟨0,0⟩ from h0)];refine aR ?_;refine zD (Kh S s (mC us ad) a.id) ?_;clear hS;rintro _ m _ ⟨rfl,S',rfl⟩ hS;rw [Su];simp only [zC,zN]at hS;refine ac9 ?_
  by_cases hn:(ka us).find a.id<0
  ·rw [zW hn];refine aR ?_;exact QN.dW rfl rfl rfl ⟨_,rfl,_,⟨by rw [kP,zX h0,yS hn],S',rfl⟩,Tr.drop (H:=[_]) hS⟩
  ·rw [zV hn];refine aR ?_;cases hb:a.b with
   |true=>
    refine aR ?_;refine QN.dW rfl rfl rfl ⟨_,rfl,_,⟨?_,S',rfl⟩,Tr.drop (H:=[_]) hS⟩;rw [kP,zX h0,zX hn,hb,ag _ J9 J9];rfl
   |false=>
    refine aR ?_;refine QN.dW rfl rfl rfl ⟨_,rfl,_,⟨?_,S',rfl⟩,Tr.drop (H:=[_]) hS⟩;rw [kP,zX h0,zX hn,hb,ag _ J9 J9];rfl
def dJ(l:List aL)(at_:Int)(after:Bool):sF×Bool:=
 if at_<0∨at_>l.length then(⟨O0,false⟩,false)else if after then(if at_>0 then(⟨l.getD (at_.toNat-1) O0,true⟩,true)else(⟨O0,false⟩,true))else if at_<l.length then(⟨l.getD at_.toNat O0,false⟩,true)else(⟨O0,true⟩,true)
theorem rY(d:Nat)(x:Dx)(hD:Canon x.D)(Ob:x.D.length≤1000000)(at_:Int)(after:Bool):bu Tryz.prog 11 [pA d,.int .i64 at_,.bool after] (bC d x []) (fun r H=>r=.tuple #[aV (dJ ((im x.D x.q.ax).map (·.2.id)) at_ after).1,.bool (dJ ((im x.D x.q.ax).map (·.2.id)) at_ after).2]∧∃S5,H=bC d {x with S5:=S5} []):=by
 intro m0 X hS;obtain ⟨M0,bR⟩:=zP (au (bC d x []));rw [←bR]at hS ⊢;refine aP.zA Tryz.func11 ?_;refine aR ?_;refine ac3 ?_;(try clear hS);intro b6 m hS;refine ac9 ?_;refine zD (I9 d x hD Ob) ?_;clear hS;obtain ⟨l,hl⟩:=zP ((im x.D x.q.ax).map (·.2.id));rw [←hl];rintro v m _ ⟨S,S5,rfl⟩ hS;obtain ⟨A,c,rfl,hc⟩:=Ev.Own.shape (show Ev.Own m S 30 2 v l.length (l.flatMap iC) from hS.head);refine ac9 ?_;obtain ⟨H0,Xt⟩:=zP (bC d {x with S5:=S5} []);have hS:Tr m0 M0 X m (bf S (.slice A l.length c) l::(bC d {x with S5:=S5} []++[ab b6 32 (aC ⟨O0,false⟩)])):=hS;rw [←Xt]at hS;have hS:=hS.perm ((xI (l₁:=_::H0) (l₂:=[_])));have fin:∀{m:World} {cs:List Value},Tr m0 M0 X m ([ab b6 32 cs]++bf S (.slice A l.length c) l::H0)→Tr m0 M0 X m (bC d {x with S5:=S5} []):=fun h=>Xt▸h.tail.tail
 have fQ:=hS.aW (show bf S (.slice A l.length c) l∈_ from by simp);simp only [zC,zN]at hS;have ret:∀{m:World} {Q:sF} {cs:List Value},cs=aC Q→Tr m0 M0 X m (ab b6 32 cs::bf S (.slice A l.length c) l::H0)→Tr m0 M0 X m (ab b6 32 (aC Q)::bf S (.slice A l.length c) l::H0):=fun h h'=>h▸h'
 by_cases h1:at_<0
 ·rw [zW h1];refine aR ?_;refine aa2 ?_;(try clear hS);intro m hS;refine aR ?_;have hS:=ret (Q:=⟨O0,false⟩) rfl hS;exact QN.bH (bY.cg aa hS rfl rfl rfl rfl JQ) ⟨_,rfl,_,⟨by rw [dJ,yS (.inl h1)];rfl,S5,rfl⟩,fin hS⟩
 ·rw [zV h1];refine aR ?_
  by_cases h2:at_>(l.length:Int)
  ·rw [zW h2];refine aR ?_;refine aa2 ?_;(try clear hS);intro m hS;refine aR ?_;have hS:=ret (Q:=⟨O0,false⟩) rfl hS;exact QN.bH (bY.cg aa hS rfl rfl rfl rfl JQ) ⟨_,rfl,_,⟨by rw [dJ,yS (.inr h2)];rfl,S5,rfl⟩,fin hS⟩
  ·rw [zV h2];have L5:¬(at_<0∨at_>(l.length:Int)):=by omega
   refine aR ?_;have kl:l.length≤maxLen:=by
    obtain ⟨A',c',he,h8,h9⟩:=Js.shape fQ;exact wG h8 h9
   unfold maxLen at kl;cases after with
   |true=>
    refine aR ?_
    by_cases h3:at_>0
    ·rw [zW h3];refine aR ?_;obtain ⟨y,hy⟩:∃y,l[at_.toNat-1]?=some y:=⟨_,xW J9⟩;obtain ⟨ad,rfl,_⟩:=Js.cell fQ (at_.toNat-1) J9;refine RL.indexAddr (k:=at_.toNat-1) aa rfl rfl rfl rfl rfl rfl JY J9 rfl ?_;refine RL.o8 aa iC (fun _=>rfl) fQ hy rfl rfl rfl rfl rfl ?_;refine aR ?_;refine aa2 ?_;(try clear hS);intro m hS;refine aR ?_;have hS:=ret (Q:=⟨y,true⟩) rfl hS;exact QN.bH (bY.cg aa hS rfl rfl rfl rfl JQ) ⟨_,rfl,_,⟨by rw [dJ,zX L5,yS rfl,yS h3,uB,hy];rfl,S5,rfl⟩,fin hS⟩
    ·rw [zV h3];refine aR ?_;refine aa2 ?_;(try clear hS);intro m hS;refine aR ?_;have hS:=ret (Q:=⟨O0,false⟩) rfl hS;exact QN.bH (bY.cg aa hS rfl rfl rfl rfl JQ) ⟨_,rfl,_,⟨by rw [dJ,zX L5,yS rfl,zX h3];rfl,S5,rfl⟩,fin hS⟩
   |false=>
    refine aR ?_
    by_cases h3:at_<(l.length:Int)
    ·rw [zW h3];refine aR ?_;obtain ⟨y,hy⟩:∃y,l[at_.toNat]?=some y:=⟨_,xW J9⟩;obtain ⟨ad,rfl,_⟩:=Js.cell fQ at_.toNat J9;refine RL.indexAddr (k:=at_.toNat) aa rfl rfl rfl rfl rfl rfl J9 J9 rfl ?_;refine RL.o8 aa iC (fun _=>rfl) fQ hy rfl rfl rfl rfl rfl ?_;refine aR ?_;refine aa2 ?_;(try clear hS);intro m hS;refine aR ?_;have hS:=ret (Q:=⟨y,false⟩) rfl hS;exact QN.bH (bY.cg aa hS rfl rfl rfl rfl JQ) ⟨_,rfl,_,⟨by rw [dJ,zX L5,zX J8,yS h3,uB,hy];rfl,S5,rfl⟩,fin hS⟩
    ·rw [zV h3];refine aR ?_;refine aa2 ?_;(try clear hS);intro m hS;refine aR ?_;have hS:=ret (Q:=⟨O0,true⟩) rfl hS;exact QN.bH (bY.cg aa hS rfl rfl rfl rfl JQ) ⟨_,rfl,_,⟨by rw [dJ,zX L5,zX J8,zX h3];rfl,S5,rfl⟩,fin hS⟩
end Go.Proofs.YtgpgladbdoimdaaGreatDoor
