/- Texts that belong together. -/
import Derived.Test.YtgpgladbdoimdaaGreatDoorMLawMV23
namespace Go.Proofs.YtgpgladbdoimdaaGreatDoor
open Go.ChangeShapes Go.WideShapes Go.ChangeAt Go.RowKit Go.Ev Go.Ids Go.SeqP
set_option maxRecDepth 20000
set_option maxHeartbeats 2000000
theorem AH(s:Nat)(q:Us)(x:Un)(ep:q.us.length<1000000):bu Tryz.prog 150 [pA s,uV x] [cQ s q] (fun r H=>r=.bool (q.may x)∧H=[cQ s (if q.may x=true then q.put x else q)]):=by
 intro m0 X hS;obtain ⟨M0,bR⟩:=zP (au [cQ s q]);rw [←bR]at hS ⊢;obtain ⟨N,v,vm,vo,cH,cP,hle,hS⟩:=iP hS;have AF:N.length=q.us.length:=by rw [←cH.len,uF]
 have kd:q.F.flat.length=q.us.length:=cP.fe;obtain ⟨A,c,hv,_,_,hA⟩:=Sl.gY fV bD ((Ba s N v vm vo q.F.roots q.F.flat []).l.at_ hS) J8;have back:∀{m:World} {A B:az},q.may x=false→Tr m0 M0 X m (A::B::pc s N v vm vo q.F.roots q.F.flat [])→Tr m0 M0 X m [cQ s (if q.may x=true then q.put x else q)]:=fun hm hS=>by
  rw [zX (by simp [hm])];exact eJ cH cP hle hS.tail.tail
 refine aP.zA Tryz.func150 ?_;refine ah ?_
 (try clear hS);intro b3 m hS;refine aa7 ?_
 (try clear hS);intro b5 m hS;refine aa7 ?_
 (try clear hS);intro m hS;refine ah ?_
 refine RL.cU (kK x.id) fun m hS=>?_
 cases hr:x.id.right with
 |false=>
  refine ah ?_;exact QN.aj rfl rfl ⟨_,rfl,_,⟨by simp [Us.may,hr],rfl⟩,back (by simp [Us.may,hr]) hS⟩
 |true=>
 refine ah ?_;refine RL.cL (nJ _ s N q.F.flat v vm vo (Ba ..).cons.cons J9 x.id) fun m hS=>?_
 rw [lP cH];cases hid:q.idx x.id with
 |some i=>
  refine ah ?_;rw [zW (show oI (some i)≥0 by simp only [oI];omega)];refine ah ?_;exact QN.aj rfl rfl ⟨_,rfl,_,⟨by simp [Us.may,hid],rfl⟩,back (by simp [Us.may,hid]) hS⟩
 |none=>
 refine ah ?_;refine ae2 ?_;refine RH.cL (nJ _ s N q.F.flat v vm vo (Ba ..).cons.cons J9 x.l) fun m hS=>?_
 rw [lP cH];refine aZ ?_;refine RH.cL (nJ _ s N q.F.flat v vm vo (Ba ..).cons.cons J9 x.r) fun m hS=>?_
 rw [lP cH];refine aZ ?_;refine RH.stop YB (QN.calm (QN.N1 ?_));have Fm:∀i,q.idx x.l=some i→¬x.l=⟨0,0⟩:=fun i h h0=>by rw [h0,cP.nb]at h;cases h
 have Ij:∀i,q.idx x.r=some i→¬x.r=⟨0,0⟩:=fun i h h0=>by rw [h0,cP.nb]at h;cases h
 have ei:∀i:Nat,decide (oI (some i)<0)=false∧decide (oI (some i)≥0)=true:=fun i=>⟨zV (by simp only [oI];omega),zW (by simp only [oI];omega)⟩
 refine WP.cut (X:=Unit) (fun _=>[(0,pA s),(3,pA b3),(5,pA b5),(6,.int .i64 (oI (q.idx x.l))),(7,.int .i64 (oI (q.idx x.r)))]) (fun _ m'=>q.may x=true∧Tr m0 M0 X m' (ab b5 30 (iC ⟨0,0⟩)::ab b3 101 (uC x)::pc s N v vm vo q.F.roots q.F.flat [])) ?_ ?_
 ·refine ah ?_;refine RL.binOp (ni x.l ⟨0,0⟩) (aY _ _ _ _ _) rfl rfl rfl rfl ?_;cases iA:q.idx x.l with
  |none=>
   by_cases n5:x.l=⟨0,0⟩
   ·rw [zW n5];refine ah ?_;refine RL.binOp (ni x.r ⟨0,0⟩) (aY _ _ _ _ _) rfl rfl rfl rfl ?_;cases sj:q.idx x.r with
    |none=>
     by_cases AZ:x.r=⟨0,0⟩
     ·rw [zW AZ];refine ah ?_;exact QN.ar () YC ⟨by simp [Us.may,Us.there,hr,hid,n5,AZ],hS⟩
     ·rw [zV AZ];refine ah ?_;exact QN.aj rfl rfl ⟨_,rfl,_,⟨by simp [Us.may,Us.there,sj,AZ],rfl⟩,back (by simp [Us.may,Us.there,sj,AZ]) hS⟩
    |some j=>
     rw [zV (Ij j sj)];refine ah ?_;rw [(ei j).1];refine ah ?_;exact QN.ar () YC ⟨by simp [Us.may,Us.there,hr,hid,n5,sj],hS⟩
   ·rw [zV n5];refine ah ?_;exact QN.aj rfl rfl ⟨_,rfl,_,⟨by simp [Us.may,Us.there,iA,n5],rfl⟩,back (by simp [Us.may,Us.there,iA,n5]) hS⟩
  |some i=>
   have n5:=Fm i iA;rw [zV n5];refine ah ?_;rw [(ei i).1];refine ah ?_;refine RL.binOp (ni x.r ⟨0,0⟩) (aY _ _ _ _ _) rfl rfl rfl rfl ?_;cases sj:q.idx x.r with
   |none=>
    by_cases AZ:x.r=⟨0,0⟩
    ·rw [zW AZ];refine ah ?_;rw [(ei i).2];refine ah ?_;exact QN.ar () YC ⟨by simp [Us.may,Us.there,hr,hid,iA,AZ],hS⟩
    ·rw [zV AZ];refine ah ?_;exact QN.aj rfl rfl ⟨_,rfl,_,⟨by simp [Us.may,Us.there,sj,AZ],rfl⟩,back (by simp [Us.may,Us.there,sj,AZ]) hS⟩
   |some j=>
    have AZ:=Ij j sj;rw [zV AZ];refine ah ?_;rw [(ei j).1];refine ah ?_;rw [(ei i).2];refine ah ?_;rw [(ei j).2];refine ah ?_;refine RL.cL (qA _ s N q.F.flat v vm vo (Ba ..).cons.cons J9 j) fun m hS=>?_
    rw [rP cP (Us.ba sj).1];refine ah ?_;refine RL.cL (qA _ s N q.F.flat v vm vo (Ba ..).cons.cons J9 i) fun m hS=>?_
    rw [rP cP (Us.ba iA).1];refine ah ?_;have oz:q.may x=decide (q.place i<q.place j):=by
     simp [Us.may,Us.there,hr,hid,iA,sj,n5,AZ,Us.find]
    by_cases hp:q.place j≤q.place i
    ·rw [zW (show(q.place j:Int)≤(q.place i:Int) by omega)];refine ah ?_;have hm:q.may x=false:=by rw [oz];simp;omega
     exact QN.aj rfl rfl ⟨_,rfl,_,⟨by rw [hm],rfl⟩,back hm hS⟩
    ·rw [zV (show¬(q.place j:Int)≤(q.place i:Int) by omega)];refine ah ?_;exact QN.ar () YC ⟨by rw [oz];simp;omega,hS⟩
 clear hS back;rintro _ m ⟨oz,hS⟩;have P7:q.there x.l=true:=by simp only [Us.may,wR]at oz;exact oz.1.1.2
 rw [yS oz,oz];refine ah ?_
 (try clear hS);intro b8 m hS;refine aa7 ?_
 refine aZ ?_
 (try clear hS);intro m hS
 refine RL.N1 (QN.N1 ?_);refine WP.cut (X:=Unit) (fun _=>[(0,pA s),(3,pA b3),(6,.int .i64 (oI (q.idx x.l))),(7,.int .i64 (oI (q.idx x.r))),(8,pA b8)]) (fun _ m'=>Tr m0 M0 X m' (ab b8 164 (yz x (r6 q x) (q.bA x).isSome)::ab b3 101 (uC x)::pc s N v vm vo q.F.roots q.F.flat [])) ?_ ?_
 ·refine ah ?_;cases sj:q.idx x.r with
  |none=>
   refine ah ?_;have gF:q.bA x=none:=by unfold Us.bA;rw [sj]
   refine QN.ar () YC ?_;rw [r6,gF];exact (hS.aH (Pre:=ab b8 164 (yz x (oI (q.idx x.l)) false)::ab b3 101 (uC x)::pc s N v vm vo q.F.roots q.F.flat []) JC).drop
  |some r=>
   rw [(ei r).2];have iD:=(Us.ba sj).1;have Ni:=IG cP P7 sj;obtain ⟨rr,sr,_,_,_,po,t,ht⟩:=nodeAt cH cP iD;obtain ⟨ad,iH⟩:=hA r rr sr;rw [iH]at hv;subst hv;refine ah ?_;refine RL.binOp (cX x.l ⟨0,0⟩) (aY _ _ _ _ _) rfl rfl rfl rfl ?_;refine ah ?_
   (try clear hS);intro m hS;refine ah ?_
   refine RL.kh aa fV bD ((Ba ..).l.cons.cons.cons.at_ hS) sr 6 rfl rfl rfl Jm rfl rfl rfl ?_;refine ah ?_;obtain ⟨FF,Xi⟩:=zP ((decide (x.l=⟨0,0⟩)||Aa (q.idx x.l) (Fo.path [] q.F r).tail));rw [←Xi]at Ni;have hS:=(hS.aH (Pre:=ab b8 164 (yz x (oI (q.idx x.l)) (decide (x.l=⟨0,0⟩)))::ab b3 101 (uC x)::pc s N (.slice (some ad) N.length c) vm vo q.F.roots q.F.flat []) JC).drop;refine (WP.loop (X:=Option Nat×Bool) (fun z=>[(0,pA s),(3,pA b3),(6,.int .i64 (oI (q.idx x.l))),(7,.int .i64 (oI (some r))),(8,pA b8),(9,.int .i64 (pI z.1))])
    (fun z m'=>(∀j,z.1=some j→j<q.us.length)∧FF=(z.2||Aa (q.idx x.l) (lZ q z.1))∧Tr m0 M0 X m' (ab b8 164 (yz x (oI (q.idx x.l)) z.2)::ab b3 101 (uC x)::pc s N (.slice (some ad) N.length c) vm vo q.F.roots q.F.flat [])) (fun z=>(lZ q z.1).length) (rr.d.p,decide (x.l=⟨0,0⟩))
    YC ⟨?_,?_,hS⟩ ?_)
   ·intro j hj;rcases po with⟨h1,_⟩|⟨j',h1,h2,_⟩
    ·dsimp only at hj;rw [h1]at hj;cases hj
    ·dsimp only at hj;rw [h1]at hj;cases hj;exact h2
   ·rw [Xi];rcases po with⟨h1,h2⟩|⟨j',h1,_,h2⟩
    ·dsimp only;rw [h1,h2]
    ·dsimp only;rw [h1,h2]
   clear hS;rintro ⟨up,lf⟩ m ⟨hj,hF,hS⟩;dsimp only at hj hF hS ⊢;refine ah ?_;cases up with
   |none=>
    refine ah ?_;have UN:FF=lf:=by rw [hF];cases q.idx x.l<;>simp [Aa,lZ]
    subst UN;cases FF with
    |true=>
     refine ah ?_
     (try clear hS);intro m hS;refine ah ?_
     refine QN.ar () YC ?_;rw [r6,Ni];exact hS
    |false=>
     refine ah ?_;refine QN.ar () YC ?_;rw [r6,Ni];exact hS
   |some j=>
    have xy:=hj j rfl;obtain ⟨rj,W0,_,_,_,Q4,tj,I5⟩:=nodeAt cH cP xy;rw [show decide (pI (some j)≥0)=true from(ei j).2];have Xz:lZ q (some j)=j::lZ q rj.d.p:=by
     show Fo.path [] q.F j=_;rcases Q4 with⟨h1,h2⟩|⟨j',h1,_,h2⟩
     ·rw [h1,←h2,I5];rfl
     ·rw [h1,←h2,I5];rfl
    have fin:∀{m:World} (lf':Bool),lf'=(lf||decide (q.idx x.l=some j))→
      Tr m0 M0 X m (ab b8 164 (yz x (oI (q.idx x.l)) lf')::ab b3 101 (uC x)::pc s N (.slice (some ad) N.length c) vm vo q.F.roots q.F.flat [])→
      (((∀k,rj.d.p=some k→k<q.us.length)∧FF=(lf'||Aa (q.idx x.l) (lZ q rj.d.p))∧Tr m0 M0 X m (ab b8 164 (yz x (oI (q.idx x.l)) lf')::ab b3 101 (uC x)::pc s N (.slice (some ad) N.length c) vm vo q.F.roots q.F.flat []))∧(lZ q rj.d.p).length<(lZ q (some j)).length):=fun lf' gF hS=>by
     refine ⟨⟨fun k hk=>?_,?_,hS⟩,by rw [Xz];simp⟩
     ·rcases Q4 with⟨h1,_⟩|⟨j',h1,h2,_⟩
      ·rw [h1]at hk;cases hk
      ·rw [h1]at hk;cases hk;exact h2
     ·rw [hF,gF,Xz];cases hq:q.idx x.l with
      |none=>simp [Aa]
      |some i=>
       simp only [Aa,yH,yJ,Bool.or_assoc]
       congr 1
       rw [uZ];simp
    have YV:((j:Int)==oI (q.idx x.l))=decide (q.idx x.l=some j):=by
     cases hq:q.idx x.l with
     |none=>rw [uZ];simp [oI]<;>omega
     |some i=>rw [uZ];simp [oI]<;>omega
    refine ah ?_;cases lf with
    |true=>
     refine ah ?_
     (try clear hS);intro m hS;refine ah ?_
     refine RL.kh aa fV bD ((Ba ..).l.cons.cons.at_ hS) W0 6 rfl rfl rfl Jm rfl rfl rfl ?_;refine ah ?_;exact QN.round (rj.d.p,true) YC (fin true YA hS).1 (fin true YA hS).2
    |false=>
     refine ah ?_;rw [show((pI (some j))==oI (q.idx x.l))=decide (q.idx x.l=some j) from YV];refine ah ?_
     (try clear hS);intro m hS;refine ah ?_
     refine RL.kh aa fV bD ((Ba ..).l.cons.cons.at_ hS) W0 6 rfl rfl rfl Jm rfl rfl rfl ?_;refine ah ?_;exact QN.round (rj.d.p,decide (q.idx x.l=some j)) YC (fin _ YA hS).1 (fin _ YA hS).2
 clear hS;rintro _ m hS;exact Kz cH cP ep oz hS
end Go.Proofs.YtgpgladbdoimdaaGreatDoor
