/- Texts that belong together. -/
import Derived.Test.YtgpgladbdoimdaaGreatDoorMLawMV26
namespace Go.Proofs.YtgpgladbdoimdaaGreatDoor
open Go.ChangeShapes Go.WideShapes Go.ChangeAt Go.RowKit Go.Ev Go.Ids Go.SeqP
set_option maxRecDepth 20000
set_option maxHeartbeats 1000000
theorem Nu{N:List RM}{m:World}{M:List Nat}(h:∀p∈gu N,Sl m M 1 p.1 p.2):∀u∈N.flatMap fV,u.oneCell'=true:=fun u hu=>by
 obtain ⟨r,hr,hu⟩:=vS.1 hu;have h1:=(h (r.vl,r.d.A.flatMap jC) (vS.2 ⟨r,hr,YA⟩)).one;have h2:=(h (r.vm,r.d.B.flatMap jC) (vS.2 ⟨r,hr,YA⟩)).one;simp only [fV,yH,uT,uU]at hu;rcases hu with rfl|rfl|rfl|rfl|rfl|rfl|rfl|rfl|rfl|rfl<;>first|rfl|exact h1|exact h2
theorem Gc(s:Nat)(q:Us):bu Tryz.prog 114 [pA s] [cQ s q] (fun r H=>∃s',r=pA s'∧H=[cQ s' q,cQ s q]):=by
 intro m0 X hS;obtain ⟨M0,bR⟩:=zP (au [cQ s q]);rw [←bR]at hS ⊢;obtain ⟨N,v,vm,vo,cH,cP,hle,hS⟩:=iP hS;have AF:N.length=q.us.length:=by rw [←cH.len,uF]
 obtain ⟨A,c,rfl,jW,_,hA⟩:=Sl.gY fV bD ((Ba s N v vm vo q.F.roots q.F.flat []).l.at_ hS) J8;have hlen:∀L:List RM,(L.flatMap fV).length=L.length*10:=fun L=>by
  induction L with
  |nil=>rfl
  |cons a L ih=>rw [vH,zY,ih,bD,yF,xQ];omega
 obtain ⟨Am,cm,rfl,_,_,_⟩:=Sl.gY jC dL (hS.bE (show jR vm q.F.roots∈_ from JQ)) J8;obtain ⟨Ao,co,rfl,_,_,_⟩:=Sl.gY jC dL (hS.bE (show jR vo q.F.flat∈_ from JQ)) J8;have rI:=Nu (M:=_) (N:=N) fun p hp=>hS.R5 (ps:=gu N) (sz:=1) YA hp
 refine aP.zA Tryz.func114 ?_;refine ah ?_;refine ad8 ?_;refine ab2 ?_;have h1:=(Ba s N (.slice A N.length c) (.slice Am q.F.roots.length cm) (.slice Ao q.F.flat.length co) q.F.roots q.F.flat []).l.at_ hS;refine RL.dx aa (hS.empty 164 10 none) (N.flatMap fV) (k:=N.length) rfl rfl rfl rfl rfl .head (Src.cS h1) (by rw [hlen]) rI Jy (by show(0+N.length)*112≤_;omega) ?_;clear hS h1;intro v' m S' hS;rw [yC,zU]at hS;refine ⟨_,rfl,?_⟩;refine RL.N1 (RH.aD hS (an.ay fun _ h=>zO _ h) ?_);obtain ⟨A',c',rfl,_⟩:=Ev.Own.shape (show Ev.Own m S' 164 10 v' _ _ from hS.head);refine ah ?_
 (try clear hS);intro sn m hS;refine aa7 ?_
 refine QN.aj rfl rfl ⟨_,rfl,_,⟨sn,rfl,rfl⟩,?_⟩;have hS:=(hS.perm (.swap ..)).freeze J8;have hS:=(hS.aH (Pre:=pc sn N (.slice A' N.length c') (.slice Am q.F.roots.length cm) (.slice Ao q.F.flat.length co) q.F.roots q.F.flat (pc s N (.slice A N.length c) (.slice Am q.F.roots.length cm) (.slice Ao q.F.flat.length co) q.F.roots q.F.flat [])) JC).drop;have hS:=eJ cH cP hle hS;have hS:=hS.perm (xI (l₁:=[cQ sn q]) (l₂:=pc s N (.slice A N.length c) (.slice Am q.F.roots.length cm) (.slice Ao q.F.flat.length co) q.F.roots q.F.flat []));exact (eJ (F:=[cQ sn q]) cH cP hle hS).perm (.swap ..)
theorem MR(s:Nat)(q:Us)(x:Un)(n:Nat)(ep:q.us.length+n≤1000000):bu Tryz.prog 115 [pA s,uV x,.int .i64 n] [cQ s q] (fun r H=>r=.bool (q.runs x n)∧H=[cQ s (q.run x n)]):=by
 intro m0 X hS;obtain ⟨M0,bR⟩:=zP (au [cQ s q]);rw [←bR]at hS ⊢;obtain ⟨N,v,vm,vo,cH,cP,hle,hS⟩:=iP hS;have AF:N.length=q.us.length:=by rw [←cH.len,uF]
 have no:∀{m:World} {A:az},q.runs x n=false→Tr m0 M0 X m (A::pc s N v vm vo q.F.roots q.F.flat [])→Tr m0 M0 X m [cQ s (q.run x n)]:=fun hm hS=>by
  rw [Us.run,zX (by simp [hm])];exact eJ cH cP hle hS.tail
 refine aP.zA Tryz.func115 ?_;refine ah ?_
 (try clear hS);intro b4 m hS;refine aa7 ?_
 by_cases hn:n<1
 ·have hf:q.runs x n=false:=by simp [Us.runs];omega
  rw [zW (show(n:Int)<1 by omega)];exact af6
 rw [zV (show¬(n:Int)<1 by omega)];refine ah ?_;refine RL.cU (kK x.id) fun m hS=>?_
 cases hr:x.id.right with
 |false=>
  have hf:q.runs x n=false:=by simp [Us.runs,Us.may,hr]
  exact af6
 |true=>
 refine ah ?_;have hid:=hr;simp only [aL.right,num,wR,vY]at hid;have DT:IntKind.u64.wrap (IntKind.u64.wrap (n:Int)-1)=((n-1:Nat):Int):=by rw [aq (n:Int) J9 J9,aq _ J9 J9];omega
 have jb:IntKind.u64.wrap (9007199254740991-(x.id.k:Int))=((9007199254740991-x.id.k:Nat):Int):=by rw [aq _ J9 J9];omega
 rw [DT,jb]
 by_cases ht:n-1>9007199254740991-x.id.k
 ·have hf:q.runs x n=false:=by simp [Us.runs];omega
  rw [zW (show((n-1:Nat):Int)>((9007199254740991-x.id.k:Nat):Int) by omega)];exact af6
 rw [zV (show¬((n-1:Nat):Int)>((9007199254740991-x.id.k:Nat):Int) by omega)];refine ae9 ?_;refine QN.N1 ?_;refine WP.cut (X:=Unit) (fun _=>[(0,pA s),(2,.int .i64 n),(4,pA b4)]) (fun _ m'=>(∀i,i<n→q.idx ⟨x.id.c,x.id.k+i⟩=none)∧Tr m0 M0 X m' (ab b4 101 (uC x)::pc s N v vm vo q.F.roots q.F.flat [])) ?_ ?_
 ·refine ah ?_;refine (WP.loop (X:=Nat) (fun i=>[(0,pA s),(2,.int .i64 n),(4,pA b4),(7,.int .i64 i)])
   (fun i m'=>i≤n∧(∀j,j<i→q.idx ⟨x.id.c,x.id.k+j⟩=none)∧Tr m0 M0 X m' (ab b4 101 (uC x)::pc s N v vm vo q.F.roots q.F.flat [])) (fun i=>n-i) 0
   YC ⟨yI _,fun j hj=>absurd hj J9,hS⟩ ?_)
  clear hS;rintro i m ⟨hi,hb,hS⟩;dsimp only at hi hb hS ⊢;refine ah ?_;rcases xA i n with aM|fW
  ·rw [zW (show(i:Int)<(n:Int) by omega)];refine ah ?_;rw [show IntKind.u64.wrap ((x.id.k:Int)+IntKind.u64.wrap (i:Int))=((x.id.k+i:Nat):Int) by rw [aq (i:Int) J9 J9,aq _ J9 J9];simp];refine RL.cL (nJ _ s N q.F.flat v vm vo (Ba ..).cons J9 ⟨x.id.c,x.id.k+i⟩) fun m hS=>?_
   rw [lP cH];cases hq:q.idx ⟨x.id.c,x.id.k+i⟩with
   |some j=>
    have hf:q.runs x n=false:=by
     refine Bool.eq_false_iff.2 fun h=>?_
     have:=(Us.iM.1 h).new i aM;rw [hq]at this;cases this
    refine ah ?_;rw [zW (show oI (some j)≥0 by simp only [oI];omega)];exact af6
   |none=>
    refine ah ?_;have hw:IntKind.i64.wrap ((i:Int)+1)=((i+1:Nat):Int):=by rw [ag _ J9 J9];simp
    rw [hw];refine QN.round (i+1) YC ⟨aM,fun j hj=>?_,hS⟩ J9;rcases xA j i with h|h
    ·exact hb j h
    ·obtain rfl:j=i:=by omega
     exact hq
  ·rw [zV (show¬(i:Int)<(n:Int) by omega)];refine ah ?_;exact QN.ar () YC ⟨fun j hj=>hb j J9,hS⟩
 clear hS;rintro _ m ⟨ks,hS⟩;have hS:=(eJ (F:=[ab b4 101 (uC x)]) cH cP hle (hS.perm (xI (l₁:=[ab b4 101 (uC x)]) (l₂:=pc s N v vm vo q.F.roots q.F.flat [])))).perm (.swap ..);refine ah ?_;refine RL.cM (AH s q x J9) ?_;clear hS;rintro _ m _ ⟨rfl,rfl⟩ hS;simp only [zC,zN]at hS;refine ⟨_,rfl,?_⟩;cases hm:q.may x with
 |false=>
  have hf:q.runs x n=false:=by simp [Us.runs,hm]
  rw [hm]at hS;refine ah ?_;refine QN.aj rfl rfl ⟨_,rfl,_,⟨by rw [hf],rfl⟩,?_⟩;rw [Us.run,zX (by simp [hf])];exact hS.perm (.swap ..)|>.tail
 |true=>
 rw [hm,yS rfl]at hS;have hR:q.lu x n:=⟨J9,J9,ks,hm⟩;have hf:=Us.iM.2 hR;rw [Us.run,yS hf,hf];refine ah ?_;refine (WP.loop (X:=Us×Un×Nat) (fun z=>[(0,pA s),(2,.int .i64 n),(4,pA b4),(8,.int .i64 z.2.2)])
  (fun z m'=>z.2.2≤n∧z.1.cG (Us.nx z.2.1 1) (n-z.2.2)=q.cG x n∧(z.2.2<n→z.1.lu (Us.nx z.2.1 1) (n-z.2.2))∧z.1.us.length+(n-z.2.2)≤1000000∧z.2.1.id.k+(n-z.2.2)≤9007199254740991∧Tr m0 M0 X m' [cQ s z.1,ab b4 101 (uC z.2.1)]) (fun z=>n-z.2.2) (q.put x,x,1)
  YC ⟨J0,?_,?_,by dsimp only;rw [Us.gB];omega,J0,hS⟩ ?_)
 ·dsimp only;rw [←Us.p9]
  congr 1
  omega
 ·intro h;dsimp only at h ⊢;have:=cP.oH (n:=n-2) (x:=x) (by rw [show n-2+2=n by omega];exact hR)
  rwa [show n-2+1=n-1 by omega]at this
 clear hS;rintro ⟨qc,u,i⟩ m ⟨hi,hp,XC,Yi,W3,hS⟩;dsimp only at hi hp XC Yi W3 hS ⊢;have QJ:=hS;refine ah ?_;rcases xA i n with aM|fW
 ·rw [zW (show(i:Int)<(n:Int) by omega)];refine ah ?_
  (try clear hS);intro m hS;refine ah ?_
  rw [show IntKind.u64.wrap ((u.id.k:Int)+1)=((u.id.k+1:Nat):Int) by rw [aq _ J9 J9];simp]
  (try clear hS);intro m hS;refine ah ?_
  have Iy:=XC aM;have VC:qc.Ok:=by
   obtain ⟨_,_,_,_,_,h,_,_⟩:=iP QJ;exact h
  have hu:Us.nx u 1=⟨⟨u.id.c,u.id.k+1⟩,u.id,u.r⟩:=rfl;refine RL.cM (AH s qc (Us.nx u 1) J9) ?_;clear hS;rintro _ m _ ⟨rfl,rfl⟩ hS;simp only [zC,zN]at hS;rw [Iy.may,yS rfl]at hS;refine ⟨_,rfl,?_⟩;refine ah ?_;rw [show IntKind.i64.wrap ((i:Int)+1)=((i+1:Nat):Int) by rw [ag _ J9 J9];simp];refine QN.round (qc.put (Us.nx u 1),Us.nx u 1,i+1) YC ⟨J0,?_,?_,by dsimp only;rw [Us.gB];omega,by dsimp only [Us.nx];simp;omega,hS⟩ J0
  ·dsimp only;rw [←hp,←Us.p9]
   congr 1
   omega
  ·intro h;dsimp only at h ⊢;have:=VC.oH (n:=n-i-2) (x:=Us.nx u 1) (by rw [show n-i-2+2=n-i by omega];exact Iy)
   rwa [show n-i-2+1=n-(i+1) by omega]at this
 ·rw [zV (show¬(i:Int)<(n:Int) by omega)];refine ah ?_;have:n-i=0:=by omega
  rw [this]at hp;have hp:qc=q.cG x n:=hp;subst hp;exact QN.aj rfl rfl ⟨_,rfl,_,⟨rfl,rfl⟩,hS.perm (.swap ..)|>.tail⟩
end Go.Proofs.YtgpgladbdoimdaaGreatDoor
