/- Texts that belong together. -/
import Derived.Test.YtgpgladbdoimdaaGreatDoorMLawMV15
namespace Go.Proofs.YtgpgladbdoimdaaGreatDoor
open Go.ChangeShapes Go.WideShapes Go.ChangeAt Go.RowKit Go.Ev Go.Ids Go.SeqP
set_option maxRecDepth 20000
set_option maxHeartbeats 1000000
theorem Kp(ps:List (Nat×Nat))(a x:Nat):∃ps',cI (mh ps) (some a) (pA x)=mh ps'∧∀p∈ps',p=(a,x)∨p∈ps:=by
 induction ps with
 |nil=>exact ⟨[(a,x)],by simp [mh,cI],fun p hp=>.inl (by simpa using hp)⟩
 |cons p ps ih=>
  by_cases h:p.1=a
  ·exact ⟨(a,x)::ps,by simp [mh,cI,h],fun z hz=>by
    rcases yH.1 hz with rfl|hz
    ·exact .inl rfl
    ·exact .inr (zO _ hz)⟩
  ·obtain ⟨ps',h1,h2⟩:=ih;refine ⟨p::ps',?_,fun z hz=>?_⟩
   ·simp only [mh,xK]at h1 ⊢;rw [←h1];simp [cI,h]
   ·rcases yH.1 hz with rfl|hz
    ·exact .inr (zS ..)
    ·rcases h2 z hz with h|h
     ·exact .inl h
     ·exact .inr (zO _ h)
abbrev TQ(s2 ra rm:Nat)(ov c2 c3 c4:Value)(So:List Nat)(N:List Nf)(ps:List (Nat×Nat))(Z:List az):List az:=
 ab s2 175 [.map (some ra),ov,c2,c3,c4]::mapA ra iV (N.map fun d=>(d.u.id,pA d.a))::mapA rm dS (mh ps)::aF So 176 1 ov N.length (N.map fun d=>pA d.a)::(N.map Nf.A++Z)
theorem NK{f:Fo}{pa:Option Nat}{sd:Bool}{i:Nat}{p:Option Nat}{s:Bool}{a b:Fo}(h:Fo.At f pa sd i p s a b):p=pa∨∃t∈f.flat,p=some t:=by
 induction f generalizing pa sd with
 |nil=>exact h.elim
 |cons k l r n il ir inn=>
  rcases h with⟨_,h,_⟩|h|h|h
  ·exact .inl h
  ·rcases il h with h|⟨t,h1,h2⟩
   ·exact .inr ⟨k,by simp [Fo.flat],h⟩
   ·exact .inr ⟨t,by simp [Fo.flat,h1],h2⟩
  ·rcases ir h with h|⟨t,h1,h2⟩
   ·exact .inr ⟨k,by simp [Fo.flat],h⟩
   ·exact .inr ⟨t,by simp [Fo.flat,h1],h2⟩
  ·rcases inn h with h|⟨t,h1,h2⟩
   ·exact .inl h
   ·exact .inr ⟨t,by simp [Fo.flat,h1],h2⟩
theorem o4:∀f:Fo,f.roots.length≤f.flat.length
 |.nil=>yP _
 |.cons k l r n=>by have:=o4 n;simp only [Fo.roots,Fo.flat,zY,yF];omega
theorem OS{f:Fo}{pa:Option Nat}{sd:Bool}{i:Nat}{p:Option Nat}{s:Bool}{a b:Fo}(h:Fo.At f pa sd i p s a b):a.flat.length≤f.flat.length∧b.flat.length≤f.flat.length:=by
 induction f generalizing pa sd with
 |nil=>exact h.elim
 |cons k l r n il ir inn=>
  simp only [Fo.flat,zY,yF];rcases h with⟨_,_,_,rfl,rfl⟩|h|h|h
  ·omega
  ·have:=il h;omega
  ·have:=ir h;omega
  ·have:=inn h;omega
theorem jG:∀(O F:List az),bk O (O++F) F
 |[],_=>.nil
 |_::O,F=>.own .head (jG O F)
theorem De{A B:az}{H H':List az}(h:kq A B H H'):∀G:List az,kq A B (G++H) (G++H')
 |[]=>h
 |_::G=>.tail (De h G)
theorem Gi{d d':Nf}:∀{M:List Nf} {i:Nat},M[i]?=some d→kq d.A d'.A (M.map Nf.A) ((M.set i d').map Nf.A)
 |[],i,h=>by simp at h
 |e::M,0,h=>by
  simp only [wZ,yJ]at h;subst h;exact .head
 |e::M,i+1,h=>.tail (Gi (M:=M) (i:=i) J5)
theorem _root_.List.fT{α β:Type}(f:α→β){l:List α}{i:Nat}(h:i<l.length):(l.map f).set i (f l[i])=l.map f:=by
 apply uQ;intro k;rw [uR]
 split
 ·rename_i e;subst e;simp [h]
 ·rfl
theorem yd:∀M:List Nf,(mC (M.map (·.u)) (M.map (·.a))).fq=M.map fun d=>(d.u.id,pA d.a)
 |[]=>rfl
 |d::M=>by
  have h:=yd M;simp only [mC,Sq.fq,xK,List.zip_cons_cons]at h ⊢;rw [h]
theorem Ge{us:List Un}{ad:List Nat}(h:ad.length=us.length):(mC us ad).F.flat.map (mC us ad).a=ad:=by
 apply uQ;intro i;simp only [mC,fz,xM]
 by_cases hi:i<us.length
 ·rw [List.getElem?_range' hi,xW J9];simp [Sq.a,xW (show i<ad.length by omega)]
 ·rw [tK (by simpa using hi),tK J9];rfl
theorem Q6{α:Type}(a b c d e:α):[a,b,c,d,e].Perm [e,b,d,a,c]:=
 (xI (l₁:=[a,b,c,d]) (l₂:=[e])).trans (.cons _ ((List.Perm.swap ..).trans (.cons _ (xI (l₁:=[a,c]) (l₂:=[d])))))
theorem Eu(S:List Nat)(s:Nat)(q:Sq)(UP:q.tr=true):bu Tryz.prog 86 [pA s] [a7 S s q] (fun v H=>∃S1 S2 s2 ad,v=pA s2∧H=[gS S2 s2 (mC q.ax ad),a7 S1 s q]):=by
 intro m0 X hS;refine aP.zA Tryz.func86 ?_;refine go ?_;refine zF yr ?_;clear hS;rintro _ m _ ⟨Sn,s2,rfl,rfl⟩ hS;simp only [zC,zN]at hS;refine ab4 ?_;refine RL.makeMap hS dS rfl ?_;clear hS;intro rm m hS;refine ab4 ?_;refine ac3 ?_;(try clear hS);intro bt m hS;refine aa1 ?_;refine aa4 ?_;intro m hS;obtain ⟨ra',rt',fr',at',ord',ro',N',k',hS⟩:=bl (hS.perm (xI (l₁:=[_,_]) (l₂:=[_,_])));have s3:N'=[]:=List.map_eq_nil_iff.1 (show N'.map (·.a)=[] from k'.l.ad);have fI:ord'.xs=[]:=k'.o;subst s3;obtain ⟨So,ov,oxs⟩:=ord';dsimp only at fI;subst fI;have hS:Tr m0 (au [a7 S s q]) X m (a7 S s q::ab s2 175 [.map (some ra'),ov,ro'.v,.map (some rt'),.bool fr']::mapA ra' iV ([]:List (aL×Value))::mapA rt' iV at'::aF So 176 1 ov 0 []::ro'.A::[ab bt 214 [.map (some rm)],mapA rm dS (mh [])]):=hS.perm (xI (l₁:=[_,_,_,_,_]) (l₂:=[_,_,_])|>.trans (.cons _ (xI (l₁:=[_,_]) (l₂:=[_,_,_,_,_]))));obtain ⟨ra,rt,fr,at_,ord,ro,N,k,hS⟩:=bl hS;obtain ⟨Z,hZ⟩:=zP (ab bt 214 [.map (some rm)]::fU q s ra rt fr at_ ord ro N [mapA rt' iV at']);have hS:Tr m0 (au [a7 S s q]) X m (TQ s2 ra' rm ov ro'.v (.map (some rt')) (.bool fr') So [] [] Z):=by
  have h1:=hS.perm (((List.Perm.cons _ (.cons _ (Q6 ..))).append_left (_::_::_::_::_::eZ N)).trans (tM _ [_,_,_,_,_] [_,_]));subst hZ;exact Tr.drop (F:=[ro'.A]) (by simpa using h1)
 clear k';obtain ⟨Ar,c,hv,hc⟩:=Rw.shape hS (r:=ord) (by simp [hZ]);have hN:ab s 175 [.map (some ra),ord.v,ro.v,.map (some rt),.bool fr]∈Z:=by simp [hZ]
 have SM:ab bt 214 [.map (some rm)]∈Z:=by simp [hZ]
 have ri:∀a∈q.ad,∃t cs,ab a t cs∈Z:=fun a ha=>by
  rw [←k.l.ad]at ha;obtain ⟨d,hd,rfl⟩:=vE.1 ha;exact ⟨_,_,(by rw [hZ];simp [(bc hd).1]:d.A∈Z)⟩
 refine go ?_;rw [hv];refine go ?_;have hn:ord.xs.length=q.us.length:=by rw [k.o,uF,k.ok.fe]
 refine (WP.loop (X:=List Nat×Value×List Nf×List (Nat×Nat)) (fun z=>[(0,pA s),(3,pA s2),(4,pA bt),(16,.slice Ar ord.xs.length c),(17,.int .i64 ord.xs.length),(18,.int .i64 z.2.2.1.length)])
  (fun z m'=>z.2.2.1.length≤ord.xs.length∧z.2.2.1.map (·.u)=q.ax.take z.2.2.1.length∧(∀p∈z.2.2.2,p.1∈q.ad∧p.2∈z.2.2.1.map (·.a))∧Tr m0 (au [a7 S s q]) X m' (TQ s2 ra' rm z.2.1 ro'.v (.map (some rt')) (.bool fr') z.1 z.2.2.1 z.2.2.2 Z)) (fun z=>ord.xs.length-z.2.2.1.length) (So,ov,[],[])
  YC ⟨yI _,rfl,fun p hp=>(by cases hp),hS⟩ ?_)
 clear hS;rintro ⟨S1,v,M,ps⟩ m1 ⟨hi,hu,sU,hS⟩;dsimp only at hi hu sU hS ⊢;refine go ?_;rcases tL hi with mN|mN
 ·have hd:decide ((M.length:Int)<(ord.xs.length:Int))=false:=zV J9;rw [hd];refine go ?_;refine WP.exit ?_;refine YF ?_;have s3:=yX (M.map Nf.A) SM;refine go ?_;have Qs:(TQ s2 ra' rm v ro'.v (.map (some rt')) (.bool fr') S1 M ps Z).Perm (mapA rm dS (mh ps)::ab s2 175 [.map (some ra'),v,ro'.v,.map (some rt'),.bool fr']::mapA ra' iV (M.map fun d=>(d.u.id,pA d.a))::aF S1 176 1 v M.length (M.map fun d=>pA d.a)::(M.map Nf.A++Z)):=vU (l₁:=[_,_]);refine RL.rangeMap aa (hS.perm Qs) rfl rfl rfl rfl ?_;clear hS;intro it m hS;refine ⟨_,rfl,?_⟩;refine go ?_;obtain ⟨R,hR⟩:=zP (fun M2=>ab s2 175 [.map (some ra'),v,ro'.v,.map (some rt'),.bool fr']::mapA ra' iV (M.map fun d=>(d.u.id,pA d.a))::aF S1 176 1 v M.length (M.map fun d=>pA d.a)::M2.map Nf.A:List Nf→List az);have hS:Tr m0 (au [a7 S s q]) X m (fw rm it dS (mh ps) (mh ps).length none::(Z++R M)):=hS.perm (.cons _ (by
   rw [hR];exact (xI (l₁:=_::_::_::M.map Nf.A) (l₂:=Z))))
  have pg:∀d∈N,∃j p s a b,Fo.At q.F none false j p s a b∧d.p=p.map q.a∧d.rl.xs=a.roots.map q.a∧d.rr.xs=b.roots.map q.a:=fun d hd=>by
   obtain ⟨j,hj,e⟩:=xT hd;have xy:j<q.us.length:=by rw [←k.l.us,uF];exact hj
   obtain ⟨p,s,a,b,h⟩:=Fo.At.dV none false ((k.ok.mem j).2 xy);obtain ⟨d',h1,h2,_,h3,h4⟩:=k.l.at_ UP _ _ _ _ _ h;rw [xW hj,e]at h1;cases h1;exact ⟨j,p,s,a,b,h,h2,h3,h4⟩
  have iH:∀j∈q.F.flat,q.a j∈q.ad:=fun j hj=>by
   obtain ⟨d,_,h1,h2,_⟩:=k.l.get ((k.ok.mem j).1 hj);rw [←k.l.ad,←h2];exact vE.2 ⟨d,h1,rfl⟩
  refine (WP.loop (X:=Nat×Option (Option Nat×Value)×List Nf) (fun z=>[(0,pA s),(3,pA s2),(4,pA bt),(8,.func (.func 139) #[] #[pA bt]),(58,.pointer (some ⟨it,0,none⟩))])
   (fun z m'=>z.2.2.map (·.a)=M.map (·.a)∧z.2.2.map (·.u)=M.map (·.u)∧Tr m0 (au [a7 S s q]) X m' (fw rm it dS (mh ps) z.1 z.2.1::(Z++R z.2.2))) (fun z=>z.1) (_,none,M)
   YC ⟨rfl,rfl,hS⟩ ?_)
  clear hS;rintro ⟨c1,lst,M2⟩ m2 ⟨PV,Vk,hS⟩;dsimp only at PV Vk hS ⊢;refine YG ?_;refine RL.LO hS rfl rfl (fun _ hS=>⟨_,rfl,?_⟩) (fun p hp c' m Uj hS=>⟨_,rfl,?_⟩)
  ·refine go ?_;refine WP.exit ?_;refine YF ?_;have hN:=yW (R M2) hN;refine go ?_;refine RL.dr (fi:=[]) (ca:=[pA bt]) hS (CM (fw rm it dS (mh ps) c1 lst::Z) (fw rm it dS (mh ps) c1 lst) bt rm ps ro (by rw [k.r UP,uF];have h1:=o4 q.F;have h2:=k.ep;rw [k.ok.fe]at h1;omega) (zS ..) (fun m M h=>PU.map h) (zO _ SM) (zO _ (by rw [hZ];simp))
     (fun x hx=>by
      rw [k.r UP]at hx;obtain ⟨t,ht,rfl⟩:=vE.1 hx;obtain ⟨ty,cs,h1⟩:=ri _ (iH t (Fo.bT q.F t ht));exact ⟨ty,cs,zO _ h1⟩)
     (fun y hy=>by
      obtain ⟨ty,cs,h1⟩:=ri _ (sU y hy).1;exact ⟨ty,cs,zO _ h1⟩)) rfl rfl rfl rfl (jG (_::Z) (R M2)) ?_
   clear hS;rintro _ m _ ⟨⟨A1,n1,k1,rfl⟩,rfl⟩ hS;refine aa1 ?_;rw [hR]at hS;dsimp only at hS;have hS:=hS.perm (xI (l₁:=_::Z));simp only [yB]at hS;refine go ?_;refine RL.aO aa hS rfl rfl rfl rfl YB YB JN YB ?_;(try clear hS);intro m hS;refine go ?_;obtain ⟨Ao,co,GF,Yo⟩:=Ev.Own.shape (show Ev.Own m S1 176 1 v M.length (M.map fun d=>pA d.a) from hS.mem (A:=aF S1 176 1 v M.length (M.map fun d:Nf=>pA d.a)) YA);rw [GF];refine go ?_;refine RL.aO aa hS rfl rfl rfl rfl YB YB JN YB ?_;(try clear hS);intro m hS;refine go ?_;have BZ:q.ax.length=M.length:=by rw [Us.ax,uF,k.ok.fe];omega
   have AX:M.map (·.u)=q.ax:=by rw [hu,←BZ,wF]
   have mD:(mC q.ax (M2.map (·.a))).fq=M.map fun d=>(d.u.id,pA d.a):=by
    rw [PV,←AX];exact yd M
   have zy:M2.length=M.length:=by simpa using xZ List.length PV
   have cP:Fe (mC q.ax (M2.map (·.a))) ((M.length:Int)==0) at' ⟨S1,v,M.map (·.a)⟩ M2:=by
    refine ⟨?_,rfl,Vk.trans AX,Hz k.ok.lz ?_,by show q.ax.length≤_;rw [BZ,mN,hn];exact k.ep,fun h=>?_⟩
    ·show M.map (·.a)=_;rw [PV];exact (Ge (by rw [uF,BZ])).symm
    ·intro u OX;obtain ⟨i,CY,rfl⟩:=vE.1 OX;have aM:=(k.ok.mem i).1 CY;exact k.ok.right _ (by simp only [Us.u,uB,xW aM];exact vF aM)
    ·have h0:q.ax.length=0:=by rw [BZ];have:=beq_iff_eq.1 h;omega
     intro a j hj;exfalso;have h1:=(yV.1 hj).1;simp only [mC,fz,List.length_range']at h1;omega
   have Yw:(⟨S1,v,M.map (·.a)⟩:Rw).A=aF S1 176 1 v M.length (M.map fun d=>pA d.a):=by unfold Rw.A;rw [uF,uM];rfl
   subst hZ;obtain ⟨S5,hS⟩:=kI (s:=s2) (ra:=ra') (rt:=rt') (rv:=.slice A1 n1 k1) (F:=fw rm it dS (mh ps) c1 lst::ab bt 214 [.map (some rm)]::fU q s ra rt fr at_ ord ro N []) cP (by
    rw [Dg,mD,Yw];exact hS.perm (.cons _ (.cons _ (((vU (l₁:=_::_::_::_::_::_::_::eZ N) (l₂:=[])).append_left (_::M2.map Nf.A)).trans (vU (l₁:=_::M2.map Nf.A))))))
   have hS:=hS.perm (xI (l₁:=[_,_,_]));obtain ⟨S6,hS⟩:=a8 k (F:=[gS S5 s2 (mC q.ax (M2.map (·.a))),fw rm it dS (mh ps) c1 lst,ab bt 214 [.map (some rm)]]) (by simpa only [fU,yB,wM,yC]using hS);have hS:=Tr.drop (F:=[fw rm it dS (mh ps) c1 lst,ab bt 214 [.map (some rm)]]) (H:=[_,_]) hS;exact QN.aj rfl rfl ⟨_,rfl,_,⟨S6,S5,s2,_,rfl,rfl⟩,hS.perm (.swap ..)⟩
  ·obtain ⟨⟨a,x⟩,Za,rfl⟩:=vE.1 hp;obtain ⟨ha,hx⟩:=sU _ Za;rw [←k.l.ad]at ha;dsimp only at ha hx hS ⊢;obtain ⟨d0,so,rfl⟩:=vE.1 ha;rw [←PV]at hx;obtain ⟨d1,MN,rfl⟩:=vE.1 hx;refine go ?_;refine RL.Ic hS rfl rfl (zS ..) rfl ?_;dsimp only;have hN:ab d0.a 178 (nC d0.u d0.p d0.rl.v d0.rr.v d0.sz)∈Z:=(by rw [hZ];simp [(bc so).1]:d0.A∈Z);have s3:=SM;obtain ⟨j,p0,sd,fa,fb,TT,I3,ZI,UW⟩:=pg d0 so;have Y2:∀o:Option Nat,(∀b,o=some b→b∈q.ad)→∀m',JS m0 (au [a7 S s q]) X (fw rm it dS (mh ps) c' (some (some d0.a,pA d1.a))::Z) m'→iL m' rm dS (mh ps)∧td EH o (mh ps) m':=fun o ho m' hj=>by
    obtain ⟨H,hT,hA⟩:=hj;refine ⟨(hT.mem (hA.mem (zS ..)):PU ..).map,fun w hs=>⟨fun b hb=>?_,fun y hy b hb=>?_⟩⟩
    ·obtain ⟨t,cs,h1⟩:=ri b (ho b hb);exact EH.fc (hT.mem (hA.mem (zO _ h1))) w hs b rfl
    ·obtain ⟨z,hz,rfl⟩:=vE.1 hy;obtain ⟨t,cs,h1⟩:=ri _ (sU z hz).1;cases hb;exact EH.fc (hT.mem (hA.mem (zO _ h1))) w hs _ rfl
   refine aR ?_;refine WP.bG (fw rm it dS (mh ps) c' (some (some d0.a,pA d1.a))::Z) hS (an.Em (_::Z) (R M2)) J7 ?_;refine aR ?_;obtain ⟨o,ho⟩:=CR ps (p0.map q.a);refine RH.xh (v:=dS o) (k:=p0.map q.a) (ok:=false) aa ai.calm GO rfl J7 rfl rfl rfl rfl rfl rfl (by rw [I3];rfl) (Y2 _ ?_) ?_ rfl ?_
   ·intro b hb;rcases NK TT with h|⟨t,ht,h⟩
    ·rw [h]at hb;cases hb
    ·rw [h]at hb;cases hb;exact iH t ht
   ·exact ho
   refine aR ?_;have fO:∀(r:Rw) (f:Fo),r.xs=f.roots.map q.a→r.A∈Z→(∀t∈f.flat,t∈q.F.flat)→f.flat.length≤q.F.flat.length→
     bu Tryz.prog 139 [r.v,pA bt] (fw rm it dS (mh ps) c' (some (some d0.a,pA d1.a))::Z) (fun v H=>(∃A n c,v=.slice A n c)∧H=fw rm it dS (mh ps) c' (some (some d0.a,pA d1.a))::Z):=fun r f e1 e2 e3 e4=>
    CM _ (fw rm it dS (mh ps) c' (some (some d0.a,pA d1.a))) bt rm ps r (by rw [e1,uF];have h1:=o4 f;have h2:=k.ep;rw [k.ok.fe]at e4;omega) (zS ..) (fun m M h=>PU.map h) (zO _ SM) (zO _ e2)
     (fun x hx=>by
      rw [e1]at hx;obtain ⟨t,ht,rfl⟩:=vE.1 hx;obtain ⟨ty,cs,h1⟩:=ri _ (iH t (e3 t (Fo.bT f t ht)));exact ⟨ty,cs,zO _ h1⟩)
     (fun y hy=>by
      obtain ⟨ty,cs,h1⟩:=ri _ (sU y hy).1;exact ⟨ty,cs,zO _ h1⟩)
   have Pl:=Fo.At.mem TT;have hlen:=OS TT;refine RH.iN (fi:=[]) (ca:=[pA bt]) hS (fO d0.rl fa ZI (by rw [hZ];simp [(bc so).2.1]) Pl.2.1 hlen.1) rfl J7 rfl rfl rfl rfl rfl (jG (_::Z) (R M2)) ?_;clear hS;rintro _ m _ ⟨⟨A1,n1,k1,rfl⟩,rfl⟩ hS;refine ⟨an.Em (_::Z) (R M2),_,rfl,?_⟩;refine aR ?_;refine RH.iN (fi:=[]) (ca:=[pA bt]) hS (fO d0.rr fb UW (by rw [hZ];simp [(bc so).2.2]) Pl.2.2 hlen.2) rfl J7 rfl rfl rfl rfl rfl (jG (_::Z) (R M2)) ?_;clear hS;rintro _ m _ ⟨⟨A2,n2,k2,rfl⟩,rfl⟩ hS;refine ⟨an.Em (_::Z) (R M2),_,rfl,?_⟩;refine aR ?_;obtain ⟨j1,Ry,e1⟩:=xT MN;have X7:M2[j1]?=some d1:=by rw [xW Ry,e1]
   have M7:∀(M3:List Nf) (d d':Nf),M3[j1]?=some d→kq d.A d'.A (fw rm it dS (mh ps) c' (some (some d0.a,pA d1.a))::Z++R M3) (fw rm it dS (mh ps) c' (some (some d0.a,pA d1.a))::Z++R (M3.set j1 d')):=fun M3 d d' h=>by
    rw [hR];exact De (.tail (.tail (.tail (Gi h)))) (_::Z)
   refine ab2 ?_;refine RL.aO (i:=6) (tb:=178) (cs:=nC d1.u d1.p d1.l d1.r d1.sz) aa hS rfl rfl rfl rfl rfl rfl (M7 M2 d1 {d1 with p:=o} X7) rfl ?_;clear hS;intro m hS;refine RL.N1 (RH.aD hS (an.Em (_::Z) _) ?_);refine aR ?_;have Z5:(M2.set j1 {d1 with p:=o})[j1]?=some {d1 with p:=o}:=by simp [Ry]
   refine ab2 ?_;refine RL.aO (i:=7) (tb:=178) (cs:=nC d1.u o d1.l d1.r d1.sz) aa hS rfl rfl rfl rfl rfl rfl (M7 _ {d1 with p:=o} {d1 with p:=o,l:=.slice A1 n1 k1} Z5) rfl ?_;clear hS;intro m hS;refine RL.N1 (RH.aD hS (an.Em (_::Z) _) ?_);refine aR ?_;have Zg:((M2.set j1 {d1 with p:=o}).set j1 {d1 with p:=o,l:=.slice A1 n1 k1})[j1]?=some {d1 with p:=o,l:=.slice A1 n1 k1}:=by simp [Ry]
   refine ab2 ?_;refine RL.aO (i:=8) (tb:=178) (cs:=nC d1.u o (.slice A1 n1 k1) d1.r d1.sz) aa hS rfl rfl rfl rfl rfl rfl (M7 _ {d1 with p:=o,l:=.slice A1 n1 k1} {d1 with p:=o,l:=.slice A1 n1 k1,r:=.slice A2 n2 k2} Zg) rfl ?_;clear hS;intro m hS;refine RL.N1 (RH.aD hS (an.Em (_::Z) _) ?_);refine aR ?_;refine QN.round (c',some (some d0.a,pA d1.a),((M2.set j1 {d1 with p:=o}).set j1 {d1 with p:=o,l:=.slice A1 n1 k1}).set j1 {d1 with p:=o,l:=.slice A1 n1 k1,r:=.slice A2 n2 k2}) YC ⟨?_,?_,hS⟩ Uj
   ·rw [←PV];simp only [List.map_set,List.set_set];rw [←e1];exact List.fT (fun d:Nf=>d.a) Ry
   ·rw [←Vk];simp only [List.map_set,List.set_set];rw [←e1];exact List.fT (fun d:Nf=>d.u) Ry
 ·have hd:decide ((M.length:Int)<(ord.xs.length:Int))=true:=zW J9;rw [hd];obtain ⟨g,c',iI,_,_,_⟩:=hS.dG (show aF ord.S 176 1 ord.v ord.xs.length (ord.xs.map pA)∈_ from by simp [hZ,Rw.A]) J9;have fQ:=Rw.sl hS (r:=ord) (by simp [hZ]);rw [hv]at iI fQ;cases iI;have U8:M.length<q.F.flat.length:=by rw [k.ok.fe];omega
  obtain ⟨i,hG⟩:=zQ U8;have hx:(ord.xs.map pA)[M.length*1]?=some (pA (q.a i)):=by rw [uO,k.o,uM,xM,hG];rfl
  obtain ⟨d,MN,Mf,IK,Z4⟩:=k.l.get ((k.ok.mem i).1 (xU hG));have fG:ab (q.a i) 178 (nC (q.u i) d.p d.rl.v d.rr.v d.sz)∈Z:=IK▸Z4▸(by rw [hZ];simp [(bc Mf).1]:d.A∈Z);refine go ?_;refine RL.GX aa fQ hx rfl rfl rfl rfl rfl rfl ?_;have hN:=yX (M.map Nf.A) fG;have s3:=yX (M.map Nf.A) SM;refine go ?_;refine RH.one rfl J7 rfl ?_;refine RL.bn hS rfl rfl rfl ?_;(try clear hS);intro x m hS;refine ⟨_,rfl,?_⟩;refine RL.N1 (RH.aD hS (an.ay (fun a ha=>zO _ ha)) ?_);refine go ?_;have hl:td EH (some (q.a i)) (mh ps) m:=fun w hs=>by
   refine ⟨EH.fc (hS.mem (zO _ (zO _ (zO _ (zO _ (zO _ hN)))))) w hs,fun p Bb=>?_⟩;obtain ⟨y,hy,rfl⟩:=vE.1 Bb;obtain ⟨t,cs,h1⟩:=ri _ (sU y hy).1;exact EH.fc (hS.mem (zO _ (zO _ (zO _ (zO _ (zO _ (yX (M.map Nf.A) h1))))))) w hs
  refine RL.Ct (k:=some (q.a i)) (v:=pA x) (es:=mh ps) aa hS GO rfl rfl rfl rfl rfl rfl JQ JN hl rfl ?_;clear hS hl;intro m hS;obtain ⟨ps',UR,VF⟩:=Kp ps (q.a i) x;rw [UR]at hS;refine go ?_;refine ab2 ?_;refine RL.mapUpdate (k:=(q.u i).id) (v:=pA x) (es:=M.map fun d=>(d.u.id,pA d.a)) aa hS ko rfl rfl rfl rfl rfl rfl JQ JN rfl ?_;clear hS;intro m hS;refine ab9 ?_;refine go ?_;refine RL.dh aa hS [.tmp 50] [pA x] rfl rfl rfl rfl rfl rfl rfl rfl rfl rfl (.tail (.tail (.tail (.tail .head)))) JO JO (wG (show M.length+1≤1000001 by have:=k.ep;omega) J8) (by show(M.length+1)*8≤_;have:=k.ep;omega) ?_;clear hS;intro b v' m S' hS;obtain ⟨Av,cv,rfl,_⟩:=Ev.Own.shape (show Ev.Own m S' 176 1 v' (M.length+1) ((M.map fun d=>pA d.a)++[pA x]) from hS.head);refine ab4 ?_;refine aa4 ?_;intro m hS;refine go ?_;have BZ:q.ax[M.length]?=some (q.u i):=by simp [Us.ax,hG]
  have AX:(M++[(⟨x,q.u i,none,.slice none 0 0,.slice none 0 0,d.sz⟩:Nf)]).map (·.u)=q.ax.take (M.length+1):=by
   rw [uJ,hu,wB,BZ];rfl
  have ks:(q.u i).id∉(M.map fun d=>(d.u.id,pA d.a)).map Prod.fst:=by
   intro hh;have e:(M.map fun d=>(d.u.id,pA d.a)).map Prod.fst=(q.ax.map (·.id)).take M.length:=by rw [←List.map_take,←hu];simp
   rw [e]at hh;have qv:=k.ok.lz;have h2:(q.ax.map (·.id))[M.length]?=some (q.u i).id:=by rw [xM,BZ];rfl
   obtain ⟨j,hj,PY⟩:=xT hh;simp only [yA]at hj;rw [xH]at PY;have h3:=(vZ (i:=j) (j:=M.length) J9 qv).1 (by rw [h2,←PY];exact xW _);omega
  rw [iX _ ks]at hS;refine QN.round (S',.slice Av (M.length+1) cv,M++[⟨x,q.u i,none,.slice none 0 0,.slice none 0 0,d.sz⟩],ps') (Sub.C1 rfl (Sub.C1 rfl (Sub.C1 rfl (Sub.C1 rfl (Sub.C1 rfl (Sub.C1 ?_ Sub.nil)))))) ⟨J6,by rw [AX];simp,fun p hp=>?_,?_⟩ J6
  ·show some (Value.int .i64 (IntKind.i64.wrap ((M.length:Int)+1)))=some (.int .i64 (((M++[_]).length:Nat):Int));rw [ag _ J9 (by have:=k.ep;omega)];simp
  ·rcases VF p hp with rfl|hp
   ·exact ⟨by rw [←k.l.ad,←IK];exact vE.2 ⟨d,Mf,rfl⟩,YA⟩
   ·exact ⟨(sU p hp).1,by rw [uJ];exact yW _ (sU p hp).2⟩
  ·refine hS.perm ?_;simp only [TQ,uJ,zY,xK,List.map_nil,yF,xE,wM,zC,zN];exact ((vU (l₁:=[_,_,_])).trans (.cons _ (vU (l₁:=_::_::_::M.map Nf.A)))).symm
end Go.Proofs.YtgpgladbdoimdaaGreatDoor
