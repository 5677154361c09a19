/- Texts that belong together. -/
import Derived.Test.YtgpgladbdoimdaaGreatDoorMLawMV51
namespace Go.Proofs.YtgpgladbdoimdaaGreatDoor
open Go.ChangeShapes Go.WideShapes Go.ChangeAt Go.RowKit Go.Ev Go.Ids Go.SeqP
set_option maxRecDepth 20000
set_option maxHeartbeats 12000000
def mR(id:aL)(x:aG):Int:=if id.lt ⟨x.c,x.t⟩then 1 else-1
theorem DU(x:aG)(id:aL):ee Tryz.prog 183 [rV x,iV id] [] (.int .i64 (mR id x)):=by
 intro m0 X hS;refine aP.zA Tryz.func183 ?_;refine aR ?_;refine ac8 ?_;(try clear hS);intro b2 m hS;refine ac9 ?_;refine ac8 ?_;(try clear hS);intro b3 m hS;refine ac9 ?_;refine zM (Hb _ id ⟨x.c,x.t⟩) ?_;rintro _ m' ⟨rfl,hE⟩;have hS:=hS.calm hE;refine ⟨_,rfl,?_⟩;refine aR ?_;cases hl:id.lt ⟨x.c,x.t⟩with
 |true=>
  refine aR ?_;exact QN.aj rfl rfl ⟨_,rfl,[],⟨by rw [mR,hl];rfl,rfl⟩,Tr.drop (H:=[]) hS⟩
 |false=>
  refine aR ?_;exact QN.aj rfl rfl ⟨_,rfl,[],⟨by rw [mR,hl];rfl,rfl⟩,Tr.drop (H:=[]) hS⟩
theorem R8(L:List az)(S:List Nat)(v:Value)(D:List aG)(id:aL)(hl:D.length≤1000000)(hm:df S v D∈L):bu Tryz.prog 182 [v,iV id,.func (.func 183) #[] #[]] L
  (fun r H=>(∃(n:Nat) (q:Bool),r=.tuple #[.int .i64 n,.bool q]∧n≤D.length∧(∀x,0<n→D[n-1]?=some x→mR id x<0)∧(∀x,D[n]?=some x→0≤mR id x))∧H=L):=by
 intro m0 X hS;obtain ⟨M0,bR⟩:=zP (au L);rw [←bR]at hS ⊢;obtain ⟨A,c,hv,_⟩:=Ev.Own.shape (show Ev.Own m0 S 167 3 v D.length (D.flatMap rC) from hS.mem hm);subst hv;refine aP.zA Tryz.func182 ?_;refine aR ?_;refine ac8 ?_;(try clear hS);intro b4 m hS;refine ac9 ?_;refine (WP.loop (X:=Nat×Nat) (fun z=>[(0,.slice A D.length c),(2,.func (.func 183) #[] #[]),(4,pA b4),(8,.int .i64 D.length),(9,.int .i64 z.1),(10,.int .i64 z.2)])
  (fun z m'=>z.1≤z.2∧z.2≤D.length∧(∀x,0<z.1→D[z.1-1]?=some x→mR id x<0)∧(∀x,D[z.2]?=some x→0≤mR id x)∧Tr m0 M0 X m' (ab b4 30 (iC id)::L)) (fun z=>z.2-z.1) (0,D.length)
  YC ⟨yI _,yP _,fun x h=>absurd h YA,fun x h=>by simp at h,hS⟩ ?_)
 clear hS;rintro ⟨i,j⟩ m ⟨E8,hj,h1,h2,hS⟩;dsimp only at E8 hj h1 h2 hS ⊢;refine aR ?_;rcases xA i j with aM|fW
 ·have hd:decide ((i:Int)<(j:Int))=true:=zW J9;rw [hd];refine aR ?_;obtain ⟨k,hk⟩:=zP ((i+j)/2);have IC:IntKind.i64.wrap ((IntKind.u64.wrap (IntKind.i64.wrap ((i:Int)+(j:Int)))).fdiv (2^iv IntKind.u64 1))=(k:Int):=by
   rw [ag ((i:Int)+j) J9 J9,aq ((i:Int)+j) J9 J9,show iv IntKind.u64 1=1 from rfl,Int.fdiv_eq_ediv_of_nonneg _ J8,ag _ J9 J9];omega
  rw [IC];have zp:k<D.length:=by omega
  obtain ⟨y,hy⟩:=zQ zp;have Ui:Rs m [] (.slice A D.length c) D:=hS.aW (zO _ hm);obtain ⟨ad,iH,_⟩:=Rs.cell Ui k zp;subst iH;refine aR ?_;refine WP.bG (ab b4 30 (iC id)::L) hS (an.self _) J7 ?_;refine aR ?_;refine RH.o8 aa ai.calm rC (fun _=>rfl) (JS.aW (zO _ hm)) hy rfl rfl J7 rfl rfl rfl rfl rfl ?_;refine aR ?_;refine RH.bU (fi:=[]) (ca:=[]) hS (DU y id) rfl J7 rfl rfl rfl rfl rfl .nil (an.self _) rfl (fun m hS=>?_);refine aR ?_
  by_cases hc:mR id y<0
  ·rw [zW hc];refine aR ?_;have hw:IntKind.i64.wrap ((k:Int)+1)=((k+1:Nat):Int):=by rw [ag _ J9 J9];simp
   rw [hw];refine QN.round (k+1,j) YC ⟨J0,hj,fun x _ hx=>?_,h2,hS⟩ J0;rw [Nat.add_sub_cancel,hy]at hx;cases hx;exact hc
  ·rw [zV hc];refine aR ?_;refine QN.round (i,k) YC ⟨J0,J0,h1,fun x hx=>?_,hS⟩ J0;rw [hy]at hx;cases hx;omega
 ·have hd:decide ((i:Int)<(j:Int))=false:=zV J9;rw [hd];refine aR ?_;refine WP.exit ?_;refine YF ?_;refine aR ?_;obtain rfl:i=j:=by omega
  rcases xA i D.length with zp|Sa
  ·obtain ⟨y,hy⟩:=zQ zp;have Ui:Rs m [] (.slice A D.length c) D:=hS.aW (zO _ hm);obtain ⟨ad,iH,_⟩:=Rs.cell Ui i zp;subst iH;refine WP.bG (ab b4 30 (iC id)::L) hS (an.self _) J7 ?_;refine aR ?_;have hd:decide ((i:Int)<(D.length:Int))=true:=zW J9;rw [hd];refine aR ?_;refine RH.o8 aa ai.calm rC (fun _=>rfl) (JS.aW (zO _ hm)) hy rfl rfl J7 rfl rfl rfl rfl rfl ?_;refine aR ?_;refine RH.bU (fi:=[]) (ca:=[]) hS (DU y id) rfl J7 rfl rfl rfl rfl rfl .nil (an.self _) rfl (fun m hS=>?_);refine aR ?_;exact QN.dW rfl rfl rfl ⟨_,rfl,_,⟨⟨i,_,rfl,hj,h1,h2⟩,rfl⟩,hS.tail⟩
  ·refine WP.bG (ab b4 30 (iC id)::L) hS (an.self _) J7 ?_;refine aR ?_;have hd:decide ((i:Int)<(D.length:Int))=false:=zV J9;rw [hd];refine aR ?_;exact QN.dW rfl rfl rfl ⟨_,rfl,_,⟨⟨i,_,rfl,hj,h1,h2⟩,rfl⟩,hS.tail⟩
theorem FA{D:List aG}(hD:Canon D)(id:aL)(n:Nat)(hn:n≤D.length)(h1:∀x,0<n→D[n-1]?=some x→mR id x<0)(h2:∀x,D[n]?=some x→0≤mR id x):
  hasB D id=match D[n]?with
   |some x=>decide (x.c=id.c)&&decide (x.f≤id.k)
   |none=>false:=by
 have lt_of:∀x,0≤mR id x→id.lt ⟨x.c,x.t⟩=true:=fun x h=>by
  cases hl:id.lt ⟨x.c,x.t⟩with
  |true=>rfl
  |false=>rw [mR,hl]at h;simp at h
 have nlt_of:∀x,mR id x<0→id.lt ⟨x.c,x.t⟩=false:=fun x h=>by
  cases hl:id.lt ⟨x.c,x.t⟩with
  |false=>rfl
  |true=>rw [mR,hl]at h;simp at h
 have key:∀m (y:aG),D[m]?=some y→qJ id y=true→m=n:=by
  intro m y hm hy;simp only [qJ,wR,vY]at hy;have hp:=xJ.1 hD.2;obtain ⟨CF,QP⟩:=yV.1 hm;rcases Nat.lt_trichotomy m n with aM|rfl|IL
  ·exfalso
   by_cases If:n-1<D.length
   ·have:=nlt_of _ (h1 D[n-1] J9 (xW If));simp only [aL.lt,Bool.or_eq_false_iff,Bool.and_eq_false_iff,decide_eq_false_iff_not]at this
    by_cases LX:m=n-1
    ·subst LX;rw [QP]at this;omega
    ·have hb:=hp m (n-1) CF If J9;rw [QP]at hb;simp only [aG.Eo]at hb;have hr:=bL.1 (hD.1 D[n-1] (vF If));omega
   ·omega
  ·rfl
  ·exfalso;have If:n<D.length:=by omega
   have:=lt_of _ (h2 D[n] (xW If));simp only [aL.lt,wS,wR,vY]at this;have hb:=hp n m If CF IL;rw [QP]at hb;simp only [aG.Eo]at hb;omega
 rw [zt,uZ,wU];constructor
 ·rintro ⟨y,hy,hi⟩;obtain ⟨m,hm,rfl⟩:=xT hy;obtain rfl:=key m _ (xW hm) hi;rw [xW hm];simp only [qJ,wR,vY]at hi ⊢;exact ⟨hi.2.1,hi.2.2.1⟩
 ·intro h;cases hx:D[n]?with
  |none=>rw [hx]at h;simp at h
  |some x=>
   rw [hx]at h;simp only [wR,vY]at h;have aM:=lt_of x (h2 x hx);simp only [aL.lt,wS,wR,vY]at aM;refine ⟨x,xU hx,?_⟩;simp only [qJ,wR,vY];exact ⟨hD.1 x (xU hx),h.1,h.2,J9⟩
theorem Pk(d:Nat)(L:List az)(D:List aG)(hD:Canon D)(hl:D.length≤1000000)(c0 c1 c2 vd:Value)(cs:List Value)(S3:List Nat)(id:aL)(hV:Wr d D L c0 c1 c2 vd cs S3):
  bu Tryz.prog 132 [pA d,iV id] L (fun r H=>r=.bool (hasB D id)∧H=L):=by
 intro m0 X hS;obtain ⟨M0,bR⟩:=zP (au L);rw [←bR]at hS ⊢;obtain ⟨A,c,Qz,_⟩:=Ev.Own.shape (show Ev.Own m0 S3 167 3 vd D.length (D.flatMap rC) from hS.mem hV.h);have hN:=hV.d;refine aP.zA Tryz.func132 ?_;refine aR ?_;refine RL.bn hS rfl rfl rfl ?_;(try clear hS);intro b3 m hS;refine ⟨_,rfl,?_⟩;refine go ?_;refine RH.iN (fi:=[]) (ca:=[]) hS (R8 _ S3 vd D id hl (zO _ hV.h)) rfl J7 rfl rfl rfl rfl rfl (bk.self _) ?_;clear hS;rintro _ m _ ⟨⟨n,q,rfl,hn,h1,h2⟩,rfl⟩ hS;simp only [vI]at hS;refine ⟨by simp only [vI];exact an.self _,_,rfl,?_⟩;have HX:=FA hD id n hn h1 h2;refine go ?_;rw [Qz];refine go ?_;rcases xA n D.length with aM|fW
 ·have hd:decide ((n:Int)<(D.length:Int))=true:=zW J9;rw [hd];obtain ⟨x,hx⟩:=zQ aM;have gi:D[n]=x:=by rw [xW aM]at hx;exact yR hx
  rw [hx]at HX;obtain ⟨g,c',iI,_,_,_⟩:=hS.dG (show aF S3 167 3 vd D.length (D.flatMap rC)∈_ from zO _ hV.h) J9;rw [Qz]at iI;obtain ⟨rfl,rfl⟩:A=some ⟨g,0,none⟩∧c=c':=by cases iI;exact ⟨rfl,rfl⟩
  subst Qz;refine go ?_;refine RH.load aa ai.calm 15 (p:=⟨g,n*3+0,none⟩) (v:=.int .u64 x.c) (fun m' h'=>by
   have:=Sl.kA (JS.aW (L:=ab b3 30 (iC id)::L) (zO _ hV.h) m' h') (j:=n*3+0) (by rw [qi D n aM 0 J9,gi];rfl) J8
   rwa [av,zU]at this) rfl J7 rfl (oX ..) rfl rfl ?_
  refine go ?_;have hq:((x.c:Int)==(id.c:Int))=decide (x.c=id.c):=by rw [uZ];simp;omega
  rw [hq];cases hc:decide (x.c=id.c)with
  |false=>
   refine go ?_;exact QN.aj rfl rfl ⟨_,rfl,_,⟨by rw [HX];simp only [hc,Bool.false_and],rfl⟩,hS.tail⟩
  |true=>
   refine go ?_;refine RH.load aa ai.calm 28 (p:=⟨g,n*3+1,none⟩) (v:=.int .u64 x.f) (fun m' h'=>by
    have:=Sl.kA (JS.aW (L:=ab b3 30 (iC id)::L) (zO _ hV.h) m' h') (j:=n*3+1) (by rw [qi D n aM 1 J9,gi];rfl) J8
    rwa [av,zU]at this) rfl J7 rfl (oX ..) rfl rfl ?_
   refine go ?_;have Lk:decide ((x.f:Int)≤(id.k:Int))=decide (x.f≤id.k):=by rw [uZ];simp
   rw [Lk];refine go ?_;exact QN.aj rfl rfl ⟨_,rfl,_,⟨by rw [HX];simp only [hc,Bool.true_and],rfl⟩,hS.tail⟩
 ·have hd:decide ((n:Int)<(D.length:Int))=false:=zV J9;rw [hd];refine go ?_;rw [tK J9]at HX;exact QN.aj rfl rfl ⟨_,rfl,_,⟨by rw [HX],rfl⟩,hS.tail⟩
theorem Dv(a b:a6):ee Tryz.prog 209 [oV a,oV b] [] (.int .i64 (if a.id.lt b.id then-1 else 1)):=by
 intro m0 X hS;refine aP.zA Tryz.func209 ?_;refine ah ?_
 (try clear hS);intro b2 m hS;refine aa7 ?_
 (try clear hS);intro b3 m hS;refine aa7 ?_
 refine RL.cU (xf a.id b.id) (fun m hS=>?_) (hs:=.nil);cases hl:a.id.lt b.id with
 |true=>
  refine ah ?_;exact QN.aj rfl rfl ⟨_,rfl,[],⟨rfl,rfl⟩,Tr.drop (H:=[]) hS⟩
 |false=>
  refine ah ?_;exact QN.aj rfl rfl ⟨_,rfl,[],⟨rfl,rfl⟩,Tr.drop (H:=[]) hS⟩
theorem MX(L:List az)(S:List Nat)(v:Value)(D:List a6)(o:a6)(hl:D.length≤1000000)(hm:lY S v D∈L):bu Tryz.prog 208 [v,oV o,.func (.func 209) #[] #[]] L
  (fun r H=>(∃(n:Nat) (q:Bool),r=.tuple #[.int .i64 n,.bool q]∧n≤D.length)∧H=L):=by
 intro m0 X hS;obtain ⟨M0,bR⟩:=zP (au L);rw [←bR]at hS ⊢;obtain ⟨A,c,rfl,_,_,hA⟩:=Sl.gY oC jy (hS.aW hm) J8;have hv:∀b4,Vw (ab b4 55 (oC o)::L) 22 (.slice A D.length c) (D.flatMap oC):=fun b4=>.own (zO _ hm)
 refine aP.zA Tryz.func208 ?_;refine ah ?_
 (try clear hS);intro b4 m hS;refine aa7 ?_
 refine (WP.loop (X:=Nat×Nat) (fun z=>[(0,.slice A D.length c),(2,.func (.func 209) #[] #[]),(4,pA b4),(8,.int .i64 D.length),(9,.int .i64 z.1),(10,.int .i64 z.2)])
  (fun z m'=>z.1≤z.2∧z.2≤D.length∧Tr m0 M0 X m' (ab b4 55 (oC o)::L)) (fun z=>z.2-z.1) (0,D.length)
  YC ⟨yI _,yP _,hS⟩ ?_)
 clear hS;rintro ⟨i,j⟩ m ⟨E8,hj,hS⟩;dsimp only at E8 hj hS ⊢;refine ah ?_;rcases xA i j with aM|fW
 ·rw [zW (show(i:Int)<(j:Int) by omega)];refine ah ?_;obtain ⟨k,hk⟩:=zP ((i+j)/2);have IC:IntKind.i64.wrap ((IntKind.u64.wrap (IntKind.i64.wrap ((i:Int)+(j:Int)))).fdiv (2^iv IntKind.u64 1))=(k:Int):=by
   rw [ag ((i:Int)+j) J9 J9,aq ((i:Int)+j) J9 J9,show iv IntKind.u64 1=1 from rfl,Int.fdiv_eq_ediv_of_nonneg _ J8,ag _ J9 J9];omega
  rw [IC];obtain ⟨y,hy⟩:∃y,D[k]?=some y:=⟨_,xW J9⟩;obtain ⟨ad,rfl⟩:=hA k y hy;refine ah ?_;refine ad8 ?_;refine RH.fg aa ai.calm oC jy (hv b4).js hy 0 (oC y) rfl rfl rfl J7 rfl rfl rfl YB rfl rfl rfl ?_;refine aZ ?_;refine RH.cU (Dv y o) (fun m hS=>?_) (hs:=.nil);cases hl:y.id.lt o.id with
  |true=>
   refine ah ?_;rw [show IntKind.i64.wrap ((k:Int)+1)=((k+1:Nat):Int) by rw [ag _ J9 J9];simp];exact QN.round (k+1,j) YC ⟨J0,hj,hS⟩ J0
  |false=>
   refine ah ?_;exact QN.round (i,k) YC ⟨J0,J0,hS⟩ J0
 ·rw [zV (show¬(i:Int)<(j:Int) by omega)];refine ah ?_;obtain rfl:i=j:=by omega
  refine ad8 ?_;rcases xA i D.length with zp|Sa
  ·obtain ⟨y,hy⟩:=zQ zp;obtain ⟨ad,rfl⟩:=hA i y hy;rw [zW (show(i:Int)<(D.length:Int) by omega)];refine aZ ?_;refine RH.fg aa ai.calm oC jy (hv b4).js hy 0 (oC y) rfl rfl rfl J7 rfl rfl rfl YB rfl rfl rfl ?_;refine aZ ?_;refine RH.cU (Dv y o) (fun m hS=>?_) (hs:=.nil);refine ah ?_;exact QN.dW rfl rfl rfl ⟨_,rfl,_,⟨⟨i,_,rfl,hj⟩,rfl⟩,hS.tail⟩
  ·rw [zV (show¬(i:Int)<(D.length:Int) by omega)];refine ah ?_;exact QN.dW rfl rfl rfl ⟨_,rfl,_,⟨⟨i,_,rfl,hj⟩,rfl⟩,hS.tail⟩
theorem CJ(S:List Nat)(b d sq:Nat)(q:Sq)(c0 c1 c2 c3 c4 c5:Value)(cs:List Value)(id:aL):bu Tryz.prog 207 [iV id,pA b] [ab b 24 [pA d],ab d 147 (c0::c1::c2::c3::c4::c5::pA sq::cs),a7 S sq q]
  (fun r H=>(∃z,r=.bool z)∧∃S',H=[ab b 24 [pA d],ab d 147 (c0::c1::c2::c3::c4::c5::pA sq::cs),a7 S' sq q]):=by
 intro m0 X hS;obtain ⟨M0,bR⟩:=zP (au [ab b 24 [pA d],ab d 147 (c0::c1::c2::c3::c4::c5::pA sq::cs),a7 S sq q]);rw [←bR]at hS ⊢;refine aP.zA Tryz.func207 ?_;refine ah ?_
 (try clear hS);intro b2 m hS;refine aa7 ?_
 refine WP.nM [ab b2 30 (iC id),ab b 24 [pA d],ab d 147 (c0::c1::c2::c3::c4::c5::pA sq::cs)] hS JD rfl J7 ?_;refine aZ ?_;refine RH.bin (cX id O0) (aY _ _ _ _ _) ?_;cases hq:decide (id=O0)with
 |true=>
  refine ah ?_;exact QN.aj rfl rfl ⟨_,rfl,_,⟨⟨_,rfl⟩,S,rfl⟩,hS.tail⟩
 |false=>
  refine aZ ?_;refine RH.cM (ml S sq q id) ?_;clear hS;rintro _ m _ ⟨rfl,S',rfl⟩ hS;simp only [zC,zN]at hS ⊢;refine ⟨JD,_,rfl,?_⟩;refine ah ?_;exact QN.aj rfl rfl ⟨_,rfl,_,⟨⟨_,rfl⟩,S',rfl⟩,(hS.aH JC).drop⟩
end Go.Proofs.YtgpgladbdoimdaaGreatDoor
