/- Texts that belong together. -/
import Derived.Test.YtgpgladbdoimdaaGreatDoorMLawMV33
import Derived.Test.YtgpgladbdoimdaaGreatDoorMLawMV51
import Derived.Laws.Runes
import Derived.Lib.RuneCount
namespace Go.Proofs.YtgpgladbdoimdaaGreatDoor
open Go.ChangeShapes Go.WideShapes Go.ChangeAt Go.RowKit Go.Ev Go.Ids Go.SeqP
set_option maxRecDepth 20000
set_option maxHeartbeats 12000000
structure XU where
 N:List RM
 l:Value
 m:Value
 o:Value
abbrev FY(d s mm:Nat)(x:Rx)(v:Ac)(w:XU)(F:List az):List az:=
 ab d 50 [v.L,v.K,v.T,v.D,pA s,pA mm,v.Mk,v.V,v.W]::dO v.L x.L::Bd v.K x.K::gh v.T x.T::qk v.D x.D::dO v.Mk x.Mk::qk v.V x.V::dO v.W x.W::pc s w.N w.l w.m w.o x.q.F.roots x.q.F.flat (q8 mm x.ML x.MH::F)
theorem F4{m0 m:World}{M0 X:List Nat}{F:List az}{S:List Nat}{d:Nat}{x:Rx}(h:Tr m0 M0 X m (cN S d x::F)):∃s mm v w,dY x.q (w.N.map (·.d))∧x.q.Ok∧x.q.us.length≤1000000∧Tr m0 M0 X m (FY d s mm x v w F):=by
 obtain ⟨s,mm,v,hS⟩:=gr h;have hS:=hS.perm (vU (l₁:=[_,_,_,_,_,_,_,_]) (a:=cQ s x.q) (l₂:=q8 mm x.ML x.MH::F));obtain ⟨N,ol,om,oo,h1,h2,h3,hS⟩:=iP hS;exact ⟨s,mm,v,⟨N,ol,om,oo⟩,h1,h2,h3,hS.perm (tM (pc s N ol om oo x.q.F.roots x.q.F.flat []) [_,_,_,_,_,_,_,_] (q8 mm x.ML x.MH::F))⟩
theorem xr{m0 m:World}{M0 X:List Nat}{F:List az}{d s mm:Nat}{x:Rx}{v:Ac}{w:XU}(h1:dY x.q (w.N.map (·.d)))(h2:x.q.Ok)(h3:x.q.us.length≤1000000)(h:Tr m0 M0 X m (FY d s mm x v w F)):∃S,Tr m0 M0 X m (cN S d x::F):=by
 have hS:=h.perm (tM [_,_,_,_,_,_,_,_] (pc s w.N w.l w.m w.o x.q.F.roots x.q.F.flat []) (q8 mm x.ML x.MH::F));have hS:=eJ (F:=[ab d 50 [v.L,v.K,v.T,v.D,pA s,pA mm,v.Mk,v.V,v.W],dO v.L x.L,Bd v.K x.K,gh v.T x.T,qk v.D x.D,dO v.Mk x.Mk,qk v.V x.V,dO v.W x.W]++q8 mm x.ML x.MH::F) h1 h2 h3 hS;exact cR (hS.perm (vU (l₁:=[_,_,_,_,_,_,_,_]) (a:=cQ s x.q) (l₂:=q8 mm x.ML x.MH::F)).symm)
def C0:Rx:=⟨[],[],[],[],⟨[],.nil⟩,[],[],[],[],[]⟩
theorem Xg:Us.Ok ⟨[],.nil⟩where
 nd:=uP
 mem:=by intro i;simp [Fo.flat]
 ids:=uP
 right:=by intro u hu;cases hu
 Qo:=by intro i p s a b h;exact h.elim
theorem CO:bu Tryz.prog 84 [] [] (fun r H=>∃d S,r=pA d∧H=[cN S d C0]):=by
 intro m0 X hS;refine aP.zA Tryz.func84 ?_;refine ah ?_
 (try clear hS);intro s m hS;refine aa7 ?_
 (try clear hS);intro mm m hS;refine aa7 ?_
 (try clear hS);intro d m hS;refine aa7 ?_
 have hS:=hS.gV 22 J8;have hS:=hS.gV 2 J8;have hS:=hS.gV 4 J8;have hS:=hS.gV 3 J8;have hS:=hS.gV 1 J8;have hS:=hS.gV 10 J8;have hS:=hS.s8 (sz:=1) (ps:=[]) (qs:=gu []) J8 (fun q hq=>by cases hq);have hS:=fN (vl:=.slice none 0 0) (vh:=.slice none 0 0) (hS.aH (Pre:=AG mm (.slice none 0 0) (.slice none 0 0) [] [] [ab d 50 [.slice none 0 0,.slice none 0 0,.slice none 0 0,.slice none 0 0,pA s,pA mm,.slice none 0 0,.slice none 0 0,.slice none 0 0],dO (.slice none 0 0) [],Bd (.slice none 0 0) [],gh (.slice none 0 0) [],qk (.slice none 0 0) [],ab s 162 [.slice none 0 0,.slice none 0 0,.slice none 0 0],bW 10 (.slice none 0 0) (([]:List RM).flatMap fV),ey 1 (gu []),jR (.slice none 0 0) []]) JC).drop;obtain ⟨S,hS⟩:=xr (d:=d) (s:=s) (mm:=mm) (x:=C0) (v:=⟨.slice none 0 0,.slice none 0 0,.slice none 0 0,.slice none 0 0,.slice none 0 0,.slice none 0 0,.slice none 0 0⟩) (w:=⟨[],.slice none 0 0,.slice none 0 0,.slice none 0 0⟩) (F:=[]) dY.nil Xg J8 (hS.aH (Pre:=FY d s mm C0 ⟨.slice none 0 0,.slice none 0 0,.slice none 0 0,.slice none 0 0,.slice none 0 0,.slice none 0 0,.slice none 0 0⟩ ⟨[],.slice none 0 0,.slice none 0 0,.slice none 0 0⟩ []) JC).drop;exact QN.aj rfl rfl ⟨_,rfl,_,⟨d,S,rfl,rfl⟩,hS⟩
def dw(x:Rx):List aL:=(x.q.ax.filter fun u=>!hasB x.D u.id).map (·.id)
theorem DB{q:Us}{N:List RM}(cH:dY q (N.map (·.d)))(cP:q.Ok){i:Nat}{u:Un}(hu:q.ax[i]?=some u):qY N q.F.flat i=some u:=by
 rw [Us.ax,xM]at hu;obtain ⟨k,hk,rfl⟩:=xN.1 hu;obtain ⟨r,hr,T9,_⟩:=nodeAt cH cP ((cP.mem k).1 (xU hk));rw [qY,zX J9,show(i:Int).toNat=i from rfl,hk];simp [hr,T9]
theorem lV(S:List Nat)(d:Nat)(x:Rx)(ep:x.D.length≤1000000):bu Tryz.prog 14 [pA d] [cN S d x] (fun r H=>∃S2 S',H=[bf S2 r (dw x),cN S' d x]):=by
 intro m0 X hS;obtain ⟨M0,bR⟩:=zP (au [cN S d x]);rw [←bR]at hS ⊢;obtain ⟨s,mm,v,w,cH,cP,hle,hS⟩:=F4 hS;have AF:w.N.length=x.q.us.length:=by rw [←cH.len,uF]
 have kd:=cP.fe;have BZ:=cP.sT;have Ww:∀k∈x.q.F.flat,k<w.N.length:=fun k hk=>by rw [AF];exact (cP.mem k).1 hk
 have hV:x7 (FY d s mm x v w []) s w.N x.q.F.flat w.l w.m w.o:=⟨JQ,.inl JQ,.inl JQ⟩;refine aP.zA Tryz.func14 ?_;refine ah ?_;have hS:=hS.empty 30 2 none;refine (WP.loop (X:=Nat×Value×List Nat) (fun z=>[(0,pA d),(3,z.2.1),(4,.int .i64 z.1)])
  (fun z m'=>z.1≤x.q.ax.length∧Tr m0 M0 X m' (bf z.2.2 z.2.1 (((x.q.ax.take z.1).filter fun u=>!hasB x.D u.id).map (·.id))::FY d s mm x v w [])) (fun z=>x.q.ax.length-z.1) (0,.slice none 0 0,[])
  YC ⟨yI _,hS⟩ ?_)
 clear hS;rintro ⟨i,vw,S2⟩ m ⟨hi,hS⟩;dsimp only at hi hS ⊢;refine ah ?_;refine RL.cL (Mz _ s w.N x.q.F.flat w.l w.m w.o hV.cons) fun m hS=>?_
 refine ah ?_;rcases xA i x.q.ax.length with aM|fW
 ·rw [zW (show(i:Int)<(x.q.F.flat.length:Int) by omega)];obtain ⟨u,hu⟩:=zQ aM;have pg:=DB cH cP hu;have hw:IntKind.i64.wrap ((i:Int)+1)=((i+1:Nat):Int):=by rw [ag _ J9 J9];simp
  have Tc:x.q.ax.take (i+1)=x.q.ax.take i++[u]:=by rw [wB,hu];rfl
  refine ah ?_;refine RL.cL (Tl _ s w.N x.q.F.flat w.l w.m w.o hV.cons Ww i) fun m hS=>?_
  rw [pg];refine ah ?_
  (try clear hS);intro b5 m hS;refine aa7 ?_
  (try clear hS);intro m hS;refine ah ?_
  refine ae2 ?_;refine RH.cU (Gl v.D x.D J9 u.id) fun m hS=>?_
  cases hh:hasB x.D u.id with
  |true=>
   refine ah ?_;rw [hw];refine QN.round (i+1,vw,S2) YC ⟨aM,?_⟩ J0;dsimp only;rw [Tc,xX,List.filter_cons_of_neg (by simp [hh]),List.filter_nil,vI];exact hS.tail
  |false=>
   refine ah ?_;have ZK:(((x.q.ax.take i).filter fun u=>!hasB x.D u.id).map (·.id)).length≤1000000:=by
    rw [uF];exact wG (xD _ _) Jq
   refine RL.dh aa hS [.tmp 35] (us:=[iV u.id]) (iC u.id) rfl rfl rfl rfl rfl rfl rfl rfl rfl rfl (.tail .head) JO (by have:=HF [u.id];simpa using this) Jy (by show(_+1)*16≤_;omega) ?_;clear hS;rintro b7 v3 m S3 hS;refine aa7 ?_;rw [hw];refine QN.round (i+1,v3,S3) YC ⟨aM,?_⟩ J0;dsimp only;have e:(((x.q.ax.take (i+1)).filter fun u=>!hasB x.D u.id).map (·.id))=(((x.q.ax.take i).filter fun u=>!hasB x.D u.id).map (·.id))++[u.id]:=by
    rw [Tc,xX,List.filter_cons_of_pos (by simp [hh]),List.filter_nil,uJ];rfl
   rw [e,bf,zY,vG];have hS:=(hS.perm (.swap ..)).tail
   simpa using hS
 ·rw [zV (show¬(i:Int)<(x.q.F.flat.length:Int) by omega)];refine ah ?_;rw [yD fW]at hS;obtain ⟨l,hl⟩:=zP (dw x);have hS:Tr m0 M0 X _ (bf S2 vw (dw x)::FY d s mm x v w []):=hS;rw [←hl]at hS ⊢;obtain ⟨S',hS⟩:=xr (F:=[bf S2 vw l]) cH cP hle (hS.perm (xI (l₁:=[bf S2 vw l]) (l₂:=FY d s mm x v w [])));exact QN.aj rfl rfl ⟨_,rfl,_,⟨S2,S',rfl⟩,hS.perm (.swap ..)⟩
theorem _root_.Go.Ev.bY.SA{P:Program}{fn:Func}{T:Ty}{n:Nat}{e:Env}{m0 m:World}{M0 X:List Nat}{H:List az}{t u u2:Tmp}{ty tb:TypeId}{b:Nat}{cs:List Value}{v v2:Value}(hT:T.Ok P)(hS:Tr m0 M0 X m H)(hr:fn.results=#[.cell t ty,.tmp u,.tmp u2])(ht:e.get t=some (.pointer (some ⟨b,0,none⟩)))
  (KN:T.jB ty=some cs.length)(hu:e.get u=some v)(OX:e.get u2=some v2)(hB:ab b tb cs∈H){D:Fr}:bY P fn n e D m (.tuple #[.agg cs.toArray,v,v2]):=by
 intro a w hf hs;obtain ⟨r,iQ,ha,cz⟩:=Ty.ec KN;have h1:=(hT.row iQ).cD (pW.cT ha) w;rw [ha]at h1;have h2:=(hT.row iQ).bX w;rw [cz]at h2;have h3:=run_loadCells_list (P:=P) w ⟨b,0,none⟩ cs (fun j x hx=>(hs.cell _).trans JP);simp [results,hr,hf.get t _ ht,hf.get u _ hu,hf.get u2 _ OX,asAddr,loadVar,h1,h2,h3]
theorem uv(L:List az)(d:Nat)(v:Ac)(c5 c6:Value)(K:List bB)(hd:ab d 50 [v.L,v.K,v.T,v.D,c5,c6,v.Mk,v.V,v.W]∈L)(hk:Bd v.K K∈L)(ep:K.length≤1000000)(o:a6)(g:Good o)(h:o.id.k+o.n≤bI K o.id.c+1):
  r7 Tryz.prog 61 [pA d,oV o] L (.tuple #[oV o,.bool false,.bool true]):=by
 intro m0 X hS;have hN:=hd;have Qi:=xm K o.id.c;have h1:=g.id;simp only [aL.right,num,wR,vY]at h1;have h3:=g.small;have h4:=g.gq;have h5:=g.vq;refine aP.zA Tryz.func61 ?_;refine ah ?_
 (try clear hS);intro b3 m hS;refine aa7 ?_
 (try clear hS);intro b4 m hS;refine aa7 ?_
 refine ae2 ?_;refine RH.cU (Dq v.K K J9 o.id.c) (fun m hS=>?_) (hs:=.ro (zO _ (zO _ hk)) rfl .nil);refine ah ?_;rw [aq ((bI K o.id.c:Int)+1) J9 J9,zV (show¬(o.id.k:Int)>(bI K o.id.c:Int)+1 by omega)];refine ah ?_;rw [aq ((bI K o.id.c:Int)+1) J9 J9,aq _ J9 J9];refine RL.cU (mE o J9) (fun m hS=>?_) (hs:=.nil);refine ah ?_;rw [aq (o.n:Int) J9 J9,zW (show(bI K o.id.c:Int)+1-(o.id.k:Int)≥(o.n:Int) by omega)];refine ah ?_
 (try clear hS);intro m hS;refine ah ?_
 exact QN.bH (bY.SA aa hS rfl rfl rfl rfl rfl JR) ⟨_,rfl,_,⟨rfl,rfl⟩,hS.tail.tail⟩
theorem BW(L:List az)(d:Nat)(v:Ac)(c5 c6:Value)(K:List bB)(hd:ab d 50 [v.L,v.K,v.T,v.D,c5,c6,v.Mk,v.V,v.W]∈L)(hk:Bd v.K K∈L)(ep:K.length≤1000000)(o:a6)(g:Good o)(h:o.id.k=bI K o.id.c+1)(hn:∀i∈o.cY,1≤i.k∧i.k≤bI K i.c):
  r7 Tryz.prog 61 [pA d,oV o] L (.tuple #[oV o,.bool true,.bool false]):=by
 intro m0 X hS;obtain ⟨M0,bR⟩:=zP (au L);rw [←bR]at hS ⊢;have hN:=hd;have Qi:=xm K o.id.c;have h1:=g.id;simp only [aL.right,num,wR,vY]at h1;have h3:=g.small;have h4:=g.gq;have h5:=g.vq;refine aP.zA Tryz.func61 ?_;refine ah ?_
 (try clear hS);intro b3 m hS;refine aa7 ?_
 (try clear hS);intro b4 m hS;refine aa7 ?_
 refine ae2 ?_;refine RH.cU (Dq v.K K J9 o.id.c) (fun m hS=>?_) (hs:=.ro (zO _ (zO _ hk)) rfl .nil);refine ah ?_;rw [aq ((bI K o.id.c:Int)+1) J9 J9,zV (show¬(o.id.k:Int)>(bI K o.id.c:Int)+1 by omega)];refine ah ?_;rw [aq ((bI K o.id.c:Int)+1) J9 J9,aq _ J9 J9];refine RL.cU (mE o J9) (fun m hS=>?_) (hs:=.nil);refine ah ?_;rw [aq (o.n:Int) J9 J9,zV (show¬(bI K o.id.c:Int)+1-(o.id.k:Int)≥(o.n:Int) by omega)];refine ah ?_;rw [show(bI K o.id.c:Int)+1-(o.id.k:Int)=0 by omega];refine WP.bG (ab b4 55 (oC ke)::ab b3 55 (oC o)::L) hS (an.self _) J7 ?_;refine aZ ?_;refine RH.cU (mE o J9) (fun m hS=>?_) (hs:=.nil);refine aZ ?_;refine RH.cU (OJ o g) (fun m hS=>?_) (hs:=.nil);refine aZ ?_
 (try clear hS);intro m hS
 have hS:Tr m0 M0 X m (ab b4 55 (oC ke)::ab b3 55 (oC o)::L):=hS;refine RL.N1 (RH.aD hS (an.self _) ?_);refine ah ?_;refine RL.cM (FX o) ?_ (hs:=.nil);clear hS;rintro vn m _ ⟨S,rfl⟩ hS;have hS:Tr m0 M0 X m (bf S vn o.cY::ab b4 55 (oC ke)::ab b3 55 (oC o)::L):=hS;have If:o.cY.length≤5:=wG (xD _ _) J1;obtain ⟨A,c,rfl,hc⟩:=Ev.Own.shape (show Ev.Own m S 30 2 vn _ _ from hS.head);refine ⟨_,rfl,?_⟩;refine ah ?_;refine (WP.loop (X:=Nat) (fun i=>[(0,pA d),(3,pA b3),(4,pA b4),(9,.slice A o.cY.length c),(10,.int .i64 i)])
  (fun i m'=>i≤o.cY.length∧Tr m0 M0 X m' (bf S (.slice A o.cY.length c) o.cY::ab b4 55 (oC ke)::ab b3 55 (oC o)::L)) (fun i=>o.cY.length-i) 0
  YC ⟨yI _,hS⟩ ?_)
 clear hS;rintro i m ⟨hi,hS⟩;refine ah ?_;rcases xA i o.cY.length with aM|fW
 ·rw [zW (show(i:Int)<(o.cY.length:Int) by omega)];obtain ⟨x,hx⟩:=zQ aM;obtain ⟨sN,mH⟩:=hn x (xU hx);obtain ⟨gg,c',he,_,_,_⟩:=hS.dG (zS ..) J9;cases he;have hw:IntKind.i64.wrap ((i:Int)+1)=((i+1:Nat):Int):=by rw [ag _ J9 J9];simp
  refine ah ?_;refine RL.fg aa iC fZ (hS.aW (zS ..)) hx 0 (iC x) rfl rfl rfl rfl rfl rfl rfl rfl ?_;refine ah ?_;refine RL.cL (KQ _ d v c5 c6 K (zO _ (zO _ (zO _ hd))) (zO _ (zO _ (zO _ hk))) ep x) fun m hS=>?_
  rw [zW sN,zW mH];refine ah ?_;rw [hw];exact ag0
 ·rw [zV (show¬(i:Int)<(o.cY.length:Int) by omega)];refine ah ?_
  (try clear hS);intro m hS;refine ah ?_
  exact QN.bH (bY.SA aa hS rfl rfl rfl rfl rfl JR) ⟨_,rfl,_,⟨rfl,rfl⟩,hS.tail.tail.tail⟩
end Go.Proofs.YtgpgladbdoimdaaGreatDoor
