/- Texts that belong together. -/
import Derived.Test.YtgpgladbdoimdaaGreatDoorMLawMV37
namespace Go.Proofs.YtgpgladbdoimdaaGreatDoor
open Go.ChangeShapes Go.WideShapes Go.ChangeAt Go.RowKit Go.Ev Go.Ids Go.SeqP
set_option maxRecDepth 20000
set_option maxHeartbeats 12000000
theorem Kt(v u:Value)(a b:List bB)(hl:a.length+b.length<100000000):bu Tryz.prog 113 [v,u] [Bd v a,Bd u b] (fun r H=>∃S,H=[aF S 193 2 r (jO a b).length ((jO a b).flatMap cC)]):=by
 intro m X hS;refine (Cm m v u a b (hS.bE (show Bd v a∈_ from JQ)) (hS.bE (show Bd u b∈_ from JQ)) hl).mono ?_;rintro r m' ⟨S,h1,h2⟩;exact ⟨_,⟨S,rfl⟩,Tr.drop (H:=[_]) (hS.made h1 h2)⟩
theorem Lt(v u:Value)(a b:List aG)(hl:a.length+b.length<100000000):bu Tryz.prog 118 [v,u] [qk v a,qk u b] (fun r H=>∃S,H=[aF S 167 3 r (join a b).length ((join a b).flatMap rC)]):=by
 intro m X hS;refine (EG m v u a b (hS.bE (show qk v a∈_ from JQ)) (hS.bE (show qk u b∈_ from JQ)) hl).mono ?_;rintro r m' ⟨S,h1,h2⟩;exact ⟨_,⟨S,rfl⟩,Tr.drop (H:=[_]) (hS.made h1 h2)⟩
structure kJ(x:Rx)(o:a6)(x':Rx):Prop where
 L:x'.L=x.L++[o]
 K:x'.K=jO x.K [⟨o.id.c,o.id.k+o.n-1⟩]
 T:x'.T=x.T
 D:x'.D=x.D
 q:x'.q=if o.k=1∨o.k=2 then x.q.run (oU o) o.n else x.q
 ML:x'.ML=x.ML∨x'.ML=x.ML++[o]
 MH:x'.MH=x.MH
 Mk:x'.Mk.length≤x.Mk.length+1
 V:x'.V.length≤x.V.length+1
 W:x'.W=x.W
abbrev rZ(d s mm:Nat)(x:Rx)(v:Ac)(F:List az):List az:=
 ab d 50 [v.L,v.K,v.T,v.D,pA s,pA mm,v.Mk,v.V,v.W]::dO v.L x.L::Bd v.K x.K::gh v.T x.T::qk v.D x.D::dO v.Mk x.Mk::qk v.V x.V::dO v.W x.W::q8 mm x.ML x.MH::F
theorem M5{m0 m:World}{M0 X:List Nat}{F:List az}{d s mm:Nat}{x:Rx}{v:Ac}(h:Tr m0 M0 X m (kf d s mm x v F)):Tr m0 M0 X m (cQ s x.q::rZ d s mm x v F):=h.perm (vU (l₁:=[_,_,_,_,_,_,_,_]) (a:=cQ s x.q) (l₂:=q8 mm x.ML x.MH::F))
theorem H9{m0 m:World}{M0 X:List Nat}{F:List az}{d s mm:Nat}{x:Rx}{v:Ac}(h:Tr m0 M0 X m (cQ s x.q::rZ d s mm x v F)):Tr m0 M0 X m (kf d s mm x v F):=h.perm (vU (l₁:=[_,_,_,_,_,_,_,_]) (a:=cQ s x.q) (l₂:=q8 mm x.ML x.MH::F)).symm
theorem HL(S:List Nat)(d:Nat)(x:Rx)(n:Nat)(hs:Mg x n)(hn:n≤200)(o:a6)(g:Good o):bu Tryz.prog 62 [pA d,oV o] [cN S d x] (fun _ H=>∃S' x',kJ x o x'∧H=[cN S' d x']):=by
 intro m0 X hS;obtain ⟨M0,bR⟩:=zP (au [cN S d x]);rw [←bR]at hS ⊢;obtain ⟨s,mm,⟨vL,vK,vT,vD,vMk,vV,vW⟩,hS⟩:=gr hS;have hS:=M5 hS;have h1:=g.id;simp only [aL.right,num,wR,vY]at h1;have h2:=g.top;have h3:=g.small;have h4:=g.gq;have h5:=g.vq;obtain ⟨f1,f2,f3,f4,f5,f6,f7,f8,f9⟩:=hs;obtain ⟨A,c,rfl,jW,_,hA⟩:=Sl.gY oC bP (hS.bE (show dO vL x.L∈_ from JQ)) J8;refine aP.zA Tryz.func62 ?_;refine ah ?_
 (try clear hS);intro b3 m hS;refine aa7 ?_
 refine ad8 ?_;refine RH.nP aa ai.calm 15 (lo:=x.L.length) (q:=x.L.length) rfl J7 rfl rfl rfl rfl rfl rfl rfl (yP _) jW rfl ?_;refine aZ ?_;refine ab2 ?_;refine RL.aA aa hS [.tmp 30] (us:=[oV o]) (oC o) rfl rfl rfl rfl rfl rfl JO rfl rfl rfl ?_;clear hS;intro b9 m hS;refine aa1 ?_;refine ac7 ?_;refine ab2 ?_;have pL:=(hS.bE (show dO (.slice A x.L.length c) x.L∈_ from JQ)).upto (l:=x.L.length) (k:=x.L.length) (yP _) (yP _) jW;rw [yD (by rw [gC];omega)]at pL;have h9:Sl m [] 22 (.slice (some ⟨b9,0,none⟩) 1 1) (oC o):=hS.aW (zS ..);refine RL.lg aa hS (oC o) (k:=1) pL rfl rfl rfl rfl rfl rfl (Src.cS h9) rfl Jy (by show(_+1)*200≤_;omega) ?_;clear hS pL h9;intro v10 m S10 hS;rw [show x.L.flatMap oC++oC o=(x.L++[o]).flatMap oC by simp [List.flatMap_append]]at hS;obtain ⟨A10,c10,rfl,_⟩:=Ev.Own.shape (show Ev.Own m S10 55 22 v10 _ _ from hS.head);refine ⟨_,rfl,?_⟩;refine RL.N1 (RH.aD hS (an.ay fun _ h=>zO _ (zO _ h)) ?_);refine aZ ?_
 (try clear hS);intro m hS
 refine ab9 ?_;have hS:=hS.freeze J8;have hS:=(hS.aH (Pre:=ab b3 55 (oC o)::cQ s x.q::rZ d s mm {x with L:=x.L++[o]} ⟨.slice A10 (x.L.length+1) c10,vK,vT,vD,vMk,vV,vW⟩ []) JC).drop;refine ah ?_;refine RL.cU (mE o J9) (fun m hS=>?_) (hs:=.nil);refine ah ?_;refine WP.dQ hS rfl J7 ?_;refine aZ ?_;rw [show IntKind.u64.wrap (IntKind.u64.wrap ((o.id.k:Int)+IntKind.u64.wrap (o.n:Int))-1)=((o.id.k+o.n-1:Nat):Int) by
  rw [aq (o.n:Int) J9 J9,aq ((o.id.k:Int)+_) J9 J9,aq _ J9 J9];omega]
 refine ab2 ?_;refine RL.aA aa hS [.tmp 52] (us:=[.agg (cC ⟨o.id.c,o.id.k+o.n-1⟩).toArray]) (([⟨o.id.c,o.id.k+o.n-1⟩]:List bB).flatMap cC) rfl rfl rfl rfl rfl rfl JO rfl rfl rfl ?_;clear hS;intro b9 m hS;refine aa1 ?_;have hS:=hS.freeze J8;refine RL.N1 (RH.aD hS (an.ay fun _ h=>zO _ h) ?_);refine aZ ?_;refine RH.cM (Kt vK (.slice (some ⟨b9,0,none⟩) 1 1) x.K [⟨o.id.c,o.id.k+o.n-1⟩] J6) ?_;clear hS;rintro vk m _ ⟨Sk,rfl⟩ hS;simp only [zC,zN]at hS ⊢;obtain ⟨Ak,ck,rfl,_⟩:=Ev.Own.shape (show Ev.Own m Sk 193 2 vk _ _ from hS.head);refine ⟨an.ay fun _ h=>zO _ (zO _ h),_,rfl,?_⟩;refine aZ ?_
 (try clear hS);intro m hS
 refine ab9 ?_;have hS:=hS.freeze J8;have hS:=(hS.aH (Pre:=ab b3 55 (oC o)::cQ s x.q::rZ d s mm {x with L:=x.L++[o],K:=jO x.K [⟨o.id.c,o.id.k+o.n-1⟩]} ⟨.slice A10 (x.L.length+1) c10,.slice Ak (jO x.K [⟨o.id.c,o.id.k+o.n-1⟩]).length ck,vT,vD,vMk,vV,vW⟩ []) JC).drop;refine QN.N1 ?_;refine WP.S1 ?_;refine WP.R1 ?_;refine aZ ?_;refine RL.N1 ?_;refine QN.N1 ?_;obtain ⟨x2,mH⟩:=zP ({x with L:=x.L++[o],K:=jO x.K [⟨o.id.c,o.id.k+o.n-1⟩]}:Rx);obtain ⟨v2,Vh⟩:=zP (⟨.slice A10 (x.L.length+1) c10,.slice Ak (jO x.K [⟨o.id.c,o.id.k+o.n-1⟩]).length ck,vT,vD,vMk,vV,vW⟩:Ac);have hS:Tr m0 M0 X m (ab b3 55 (oC o)::cQ s x2.q::rZ d s mm x2 v2 []):=by rw [mH,Vh];exact hS
 refine WP.cut (X:=Nat×Nat×Rx×Ac×Bool) (fun z=>[(0,pA d),(3,pA b3),(5,.bool z.2.2.2.2)]) (fun z m'=>kJ x o z.2.2.1∧z.2.2.1.V=x.V∧Tr m0 M0 X m' (ab b3 55 (oC o)::cQ z.1 z.2.2.1.q::rZ d z.1 z.2.1 z.2.2.1 z.2.2.2.1 [])) ?_ ?_
 ·have eL:x2.L=x.L++[o]:=by rw [mH]
  have eK:x2.K=jO x.K [⟨o.id.c,o.id.k+o.n-1⟩]:=by rw [mH]
  have eq2:x2.q=x.q:=by rw [mH]
  have eMk:x2.Mk=x.Mk:=by rw [mH]
  have eML:x2.ML=x.ML:=by rw [mH]
  have eMH:x2.MH=x.MH:=by rw [mH]
  have eV:x2.V=x.V:=by rw [mH]
  have eW:x2.W=x.W:=by rw [mH]
  have eT:x2.T=x.T:=by rw [mH]
  have eD:x2.D=x.D:=by rw [mH]
  clear mH Vh;have run:∀{Q:Exit→Act→World→Prop} {m:World},(o.k=1∨o.k=2)→Tr m0 M0 X m (ab b3 55 (oC o)::cQ s x2.q::rZ d s mm x2 v2 [])→True:=fun _ _=>trivial
  have ep:x2.q.us.length+o.n≤1000000:=by rw [eq2];omega
  have stq:∀qn,qn=x.q.run (oU o) o.n→(o.k=1∨o.k=2)→kJ x o {x2 with q:=qn}:=fun qn h hk=>⟨eL,eK,eT,eD,by rw [yS hk];exact h,.inl eML,eMH,by show x2.Mk.length≤_;rw [eMk];omega,by show x2.V.length≤_;rw [eV];omega,eW⟩
  have stn:∀(ML':List a6) (Mk':List a6),¬(o.k=1∨o.k=2)→(ML'=x.ML∨ML'=x.ML++[o])→Mk'.length≤x.Mk.length+1→kJ x o {x2 with ML:=ML',Mk:=Mk'}:=fun ML' Mk' hk h1 h2=>⟨eL,eK,eT,eD,by rw [zX hk];exact eq2,h1,eMH,h2,by show x2.V.length≤_;rw [eV];omega,eW⟩
  refine ah ?_;have kk:o.k=1∨o.k=2∨o.k=3∨o.k=4:=by
   rcases g.kind with h|h|h|h
   ·exact .inl h.1
   ·exact .inr (.inl h.1)
   ·exact .inr (.inr (.inl h.1))
   ·exact .inr (.inr (.inr h.1))
  rcases kk with hk|hk|hk|hk
  ·rw [show((o.k:Int)==1)=true by rw [hk];rfl];refine ah ?_;refine RL.cM (Gc s x2.q) ?_;clear hS;rintro _ m _ ⟨sn,rfl,rfl⟩ hS;simp only [zC,zN]at hS;refine aa7 ?_;refine RL.cM (MR sn x2.q (oU o) o.n ep) ?_;clear hS;rintro _ m _ ⟨rfl,rfl⟩ hS;simp only [zC,zN]at hS;refine aa1 ?_;cases hr:x2.q.runs (oU o) o.n with
   |true=>
    refine ah ?_
    (try clear hS);intro m hS;refine ah ?_
    refine QN.ar (sn,mm,{x2 with q:=x2.q.run (oU o) o.n},v2,true) YC ⟨stq _ (by rw [eq2]) (.inl hk),eV,?_⟩;exact (hS.aH (Pre:=ab b3 55 (oC o)::cQ sn (x2.q.run (oU o) o.n)::rZ d sn mm {x2 with q:=x2.q.run (oU o) o.n} v2 []) JC).drop
   |false=>
    refine ah ?_;refine QN.ar (s,mm,{x2 with q:=x2.q},v2,false) YC ⟨stq _ (by rw [eq2]at hr ⊢;rw [Us.run,zX (by simp [hr])]) (.inl hk),eV,?_⟩;exact ah4
  ·have Ij:o.n=1:=by rw [a6.n,zX J9]
   rw [show((o.k:Int)==1)=false by rw [hk];rfl];refine ah ?_;rw [show((o.k:Int)==2)=true by rw [hk];rfl];refine ah ?_;refine RL.cM (Gc s x2.q) ?_;clear hS;rintro _ m _ ⟨sn,rfl,rfl⟩ hS;simp only [zC,zN]at hS;refine aa7 ?_;refine RL.cM (MR sn x2.q (oU o) o.n ep) ?_;clear hS;rintro _ m _ ⟨rfl,rfl⟩ hS;simp only [zC,zN]at hS;refine aa1 ?_;cases hr:x2.q.runs (oU o) o.n with
   |true=>
    refine ah ?_
    (try clear hS);intro m hS;refine ah ?_
    refine QN.ar (sn,mm,{x2 with q:=x2.q.run (oU o) o.n},v2,true) YC ⟨stq _ (by rw [eq2]) (.inr hk),eV,?_⟩;exact (hS.aH (Pre:=ab b3 55 (oC o)::cQ sn (x2.q.run (oU o) o.n)::rZ d sn mm {x2 with q:=x2.q.run (oU o) o.n} v2 []) JC).drop
   |false=>
    refine ah ?_;refine QN.ar (s,mm,{x2 with q:=x2.q},v2,false) YC ⟨stq _ (by rw [eq2]at hr ⊢;rw [Us.run,zX (by simp [hr])]) (.inr hk),eV,?_⟩;exact ah4
  ·rw [show((o.k:Int)==1)=false by rw [hk];rfl];refine ah ?_;rw [show((o.k:Int)==2)=false by rw [hk];rfl];refine ah ?_;rw [show((o.k:Int)==3)=true by rw [hk];rfl];refine ah ?_;obtain ⟨wL,wK,wT,wD,wMk,wV,wW⟩:=v2;obtain ⟨N,ol,om,oo,cH,cP,hle,hS⟩:=iP (hS.perm (.swap ..));obtain ⟨B,cB,ZO,W8,_,hB⟩:=Sl.gY oC bP (hS.bE (show dO wMk x2.Mk∈_ from JQ)) J8;subst ZO;have back:∀{m:World},Tr m0 M0 X m (pc s N ol om oo x2.q.F.roots x2.q.F.flat (ab b3 55 (oC o)::rZ d s mm x2 ⟨wL,wK,wT,wD,.slice B x2.Mk.length cB,wV,wW⟩ []))→Tr m0 M0 X m (ab b3 55 (oC o)::cQ s x2.q::rZ d s mm x2 ⟨wL,wK,wT,wD,.slice B x2.Mk.length cB,wV,wW⟩ []):=fun h=>(eJ cH cP hle h).perm (.swap ..)
   refine ae2 ?_;refine RH.cL (CT _ s N ol om oo x2.q (Ba ..) cH cP hle o.fr) fun m hS=>?_
   refine ah ?_;refine ae2 ?_;refine RH.cL (CT _ s N ol om oo x2.q (Ba ..) cH cP hle o.to) fun m hS=>?_
   cases ga:(wz x2.q o.fr).2 with
   |false=>
    refine ah ?_;exact QN.ar (s,mm,{x2 with ML:=x2.ML,Mk:=x2.Mk},⟨wL,wK,wT,wD,.slice B x2.Mk.length cB,wV,wW⟩,false) YC ⟨stn x2.ML x2.Mk J9 (.inl eML) (by rw [eMk];omega),eV,back hS⟩
   |true=>
   cases gb:(wz x2.q o.to).2 with
   |false=>
    refine ah ?_;exact QN.ar (s,mm,{x2 with ML:=x2.ML,Mk:=x2.Mk},⟨wL,wK,wT,wD,.slice B x2.Mk.length cB,wV,wW⟩,false) YC ⟨stn x2.ML x2.Mk J9 (.inl eML) (by rw [eMk];omega),eV,back hS⟩
   |true=>
   refine ah ?_;have hS:=back hS;have CF:x2.Mk.length≤1000:=by rw [eMk];omega
   refine (WP.eo (X:=Nat) (fun i=>[(0,pA d),(3,pA b3),(5,.bool true),(11,.int .i64 i)])
    (fun i m'=>i≤x2.Mk.length∧Tr m0 M0 X m' (ab b3 55 (oC o)::cQ s x2.q::rZ d s mm x2 ⟨wL,wK,wT,wD,.slice B x2.Mk.length cB,wV,wW⟩ []))
    (fun i m'=>i≤x2.Mk.length∧Tr m0 M0 X m' (ab b3 55 (oC o)::cQ s x2.q::rZ d s mm x2 ⟨wL,wK,wT,wD,.slice B x2.Mk.length cB,wV,wW⟩ [])) (fun i=>x2.Mk.length-i) 0 1
    YC ⟨yI _,hS⟩ ?_ ?_)
   ·clear hS;rintro i m ⟨hi,hS⟩;refine ah ?_;refine ae2 ?_;rcases xA i x2.Mk.length with aM|fW
    ·rw [zW (show(i:Int)<(x2.Mk.length:Int) by omega)];obtain ⟨y,hy⟩:=zQ aM;obtain ⟨ad,rfl⟩:=hB i y hy;refine aZ ?_;refine RH.fg aa ai.calm oC bP (JS.bE (show dO (.slice (some ad) x2.Mk.length cB) x2.Mk∈_ from JQ)) hy 0 (iC y.id) rfl rfl rfl J7 rfl rfl rfl Jm rfl rfl rfl ?_;refine aZ ?_;refine RH.cU (p7 y.id o.id) (fun m hS=>?_) (hs:=.nil);cases zy:y.id.lt o.id with
     |true=>
      refine ai7 ?_;exact ag0
     |false=>
      refine ah ?_;exact QN.du i YC ⟨hi,hS⟩
    ·rw [zV (show¬(i:Int)<(x2.Mk.length:Int) by omega)];refine ah ?_;exact QN.du i YC ⟨hi,hS⟩
   ·clear hS;rintro i m ⟨hi,hS⟩;refine QN.bx ?_;refine ah ?_;have e1:(x2.Mk.flatMap oC).take (i*22)=(x2.Mk.take i).flatMap oC:=by
     conv=>lhs;rw [←yG i x2.Mk,vG]
     rw [tE (by rw [gC,yA];congr 1;omega)]
    have e2:(x2.Mk.flatMap oC).drop (i*22)=(x2.Mk.drop i).flatMap oC:=by
     conv=>lhs;rw [←yG i x2.Mk,vG]
     rw [List.drop_left' (by rw [gC,yA];congr 1;omega)]
    have qo:=(hS.bE (show dO (.slice B x2.Mk.length cB) x2.Mk∈_ from JQ)).upto (l:=i) (k:=cB) hi (wG hi W8) (yP _);rw [e1]at qo;refine RL.sliceTo (l:=i) aa rfl rfl rfl rfl rfl J9 rfl ?_;refine RL.dx aa (hS.empty 55 22 none) ((x2.Mk.take i).flatMap oC) (k:=i) rfl rfl rfl rfl rfl .head (Src.cS qo) (by show _=i*22;rw [gC,yA];congr 1;omega) (nO _) Jy (by show(0+i)*200≤_;omega) ?_;clear hS qo;intro v1 m S1 hS;rw [yC,zU]at hS;refine ⟨_,rfl,?_⟩;refine ah ?_;have hS:Tr m0 M0 X m (aF S1 55 22 v1 i ((x2.Mk.take i).flatMap oC)::ab b3 55 (oC o)::cQ s x2.q::rZ d s mm x2 ⟨wL,wK,wT,wD,.slice B x2.Mk.length cB,wV,wW⟩ []):=hS;refine WP.calm (WP.draw (JS m0 M0 X (ab b3 55 (oC o)::cQ s x2.q::rZ d s mm x2 ⟨wL,wK,wT,wD,.slice B x2.Mk.length cB,wV,wW⟩ [])) [14] J7 ⟨_,hS,an.ay fun _ h=>zO _ h⟩ ?_);refine aZ ?_;refine RH.sliceFrom aa ai.calm 10 (l:=i) rfl J7 rfl rfl rfl rfl rfl hi rfl ?_;refine aZ ?_;refine RH.one rfl J7 rfl ?_;refine RL.aA aa hS [.tmp 140] (us:=[oV o]) (oC o) rfl rfl rfl rfl rfl rfl JO rfl rfl rfl ?_;clear hS;intro b2 m hS;refine ⟨_,rfl,?_⟩;refine RL.N1 (RH.aD hS (an.ay fun a ha=>zO _ (zO _ ha)) ?_);refine aZ ?_;refine RH.one rfl J7 rfl ?_;have h2:Sl m [] 22 (.slice (some ⟨b2,0,none⟩) 1 1) (oC o):=hS.aW (zS ..);refine RL.dx aa hS (oC o) (k:=1) rfl rfl rfl rfl rfl (.tail .head) (Src.cS h2) rfl (by have:=nO [o];simpa using this) Jy (by show(i+1)*200≤_;omega) ?_;clear hS h2;intro v3 m S3 hS;refine ⟨_,rfl,?_⟩;refine RL.N1 (RH.aD hS (an.ay fun a ha=>zO _ (zO _ ha)) ?_);refine aZ ?_;refine RH.one rfl J7 rfl ?_;have Kg:=(hS.bE (show dO (.slice B x2.Mk.length cB) x2.Mk∈_ from JQ)).from_ (l:=i) hi;rw [e2]at Kg;refine RL.dx aa hS ((x2.Mk.drop i).flatMap oC) (k:=x2.Mk.length-i) rfl rfl rfl rfl rfl .head (Src.cS Kg) (by show _=(x2.Mk.length-i)*22;rw [gC,zZ]) (nO _) Jy (by show(i+1+(x2.Mk.length-i))*200≤_;omega) ?_;clear hS Kg;intro v4 m S4 hS;have e3:(x2.Mk.take i).flatMap oC++oC o++(x2.Mk.drop i).flatMap oC=(aB i o x2.Mk).flatMap oC:=by
     simp [aB,List.flatMap_append,List.flatMap_cons]
    have e4:i+1+(x2.Mk.length-i)=(aB i o x2.Mk).length:=by rw [bO];omega
    rw [e3,e4]at hS;obtain ⟨A4,c4,rfl,_⟩:=Ev.Own.shape (show Ev.Own m S4 55 22 v4 _ _ from hS.head);refine aa1 ?_;refine RL.N1 (RH.aD hS (an.ay fun a ha=>zO _ (zO _ ha)) ?_);refine aZ ?_
    (try clear hS);intro m hS
    refine ab9 ?_;refine ah ?_;have hS:=hS.freeze J8;refine QN.ar (s,mm,{x2 with ML:=x2.ML,Mk:=aB i o x2.Mk},⟨wL,wK,wT,wD,.slice A4 (aB i o x2.Mk).length c4,wV,wW⟩,true) YC ⟨stn x2.ML (aB i o x2.Mk) J9 (.inl eML) (by rw [bO,eMk];omega),eV,?_⟩;exact (hS.aH (Pre:=ab b3 55 (oC o)::cQ s x2.q::rZ d s mm {x2 with ML:=x2.ML,Mk:=aB i o x2.Mk} ⟨wL,wK,wT,wD,.slice A4 (aB i o x2.Mk).length c4,wV,wW⟩ []) JC).drop
  ·rw [show((o.k:Int)==1)=false by rw [hk];rfl];refine ah ?_;rw [show((o.k:Int)==2)=false by rw [hk];rfl];refine ah ?_;rw [show((o.k:Int)==3)=false by rw [hk];rfl];refine ah ?_;rw [show((o.k:Int)==4)=true by rw [hk];rfl];refine ah ?_;refine RL.cM (Di mm x2.ML x2.MH (by rw [eML];omega) (by rw [eMH];omega)) ?_;clear hS;rintro _ m _ ⟨m2,rfl,rfl⟩ hS;simp only [zC,zN]at hS;refine aa7 ?_;refine RL.cM (Sz m2 x2.ML x2.MH o (by rw [eML];omega)) ?_;clear hS;rintro _ m _ ⟨ok,ML',rfl,TE,rfl⟩ hS;simp only [zC,zN]at hS;rw [eML]at TE;refine aa1 ?_;cases ok with
   |true=>
    refine ah ?_
    (try clear hS);intro m hS;refine ah ?_
    refine QN.ar (s,m2,{x2 with ML:=ML',Mk:=x2.Mk},v2,true) YC ⟨stn ML' x2.Mk J9 TE (by rw [eMk];omega),eV,?_⟩;exact (hS.aH (Pre:=ab b3 55 (oC o)::cQ s x2.q::rZ d s m2 {x2 with ML:=ML',Mk:=x2.Mk} v2 []) JC).drop
   |false=>
    refine ah ?_;refine QN.ar (s,mm,{x2 with ML:=x2.ML,Mk:=x2.Mk},v2,false) YC ⟨stn x2.ML x2.Mk J9 (.inl eML) (by rw [eMk];omega),eV,?_⟩;exact ah4
 ·clear hS;rintro ⟨s',mm',x',v',ok⟩ m ⟨iw,hV,hS⟩;dsimp only at iw hV hS ⊢;cases ok with
  |true=>
   refine ah ?_;obtain ⟨S',hS⟩:=cR (H9 hS.tail);exact QN.kg rfl ⟨_,rfl,_,⟨S',x',iw,rfl⟩,hS⟩
  |false=>
   refine ah ?_;refine ad8 ?_;refine RH.cU (IH o g) (fun m hS=>?_) (hs:=.nil);refine aZ ?_;refine ab2 ?_;refine RL.aA aa hS [.tmp 175] (us:=[.agg (iR o).toArray]) ([oR o].flatMap rC) rfl rfl rfl rfl rfl rfl JO rfl rfl rfl ?_;clear hS;intro b9 m hS;refine aa1 ?_;have hS:=hS.freeze J8;refine RL.N1 (RH.aD hS (an.ay fun _ h=>zO _ h) ?_);refine aZ ?_;refine RH.cM (Lt v'.V (.slice (some ⟨b9,0,none⟩) 1 1) x'.V [oR o] (by rw [hV];simp;omega)) ?_;clear hS;rintro vk m _ ⟨Sk,rfl⟩ hS;simp only [zC,zN]at hS ⊢;obtain ⟨Ak,ck,rfl,_⟩:=Ev.Own.shape (show Ev.Own m Sk 167 3 vk _ _ from hS.head);refine ⟨an.ay fun _ h=>zO _ (zO _ h),_,rfl,?_⟩;refine aZ ?_
   (try clear hS);intro m hS
   refine ab9 ?_;refine ah ?_;have hS:=hS.freeze J8;have hl:(join x'.V [oR o]).length≤x.V.length+1:=by rw [hV];exact wG (eM _) YA
   have hS:=(hS.aH (Pre:=cQ s' x'.q::rZ d s' mm' {x' with V:=join x'.V [oR o]} {v' with V:=.slice Ak (join x'.V [oR o]).length ck} []) JC).drop;obtain ⟨S',hS⟩:=cR (x:={x' with V:=join x'.V [oR o]}) (H9 hS);exact QN.kg rfl ⟨_,rfl,_,⟨S',{x' with V:=join x'.V [oR o]},⟨iw.L,iw.K,iw.T,iw.D,iw.q,iw.ML,iw.MH,iw.Mk,hl,iw.W⟩,rfl⟩,hS⟩
end Go.Proofs.YtgpgladbdoimdaaGreatDoor
