/- Texts that belong together. -/
import Derived.Test.YtgpgladbdoimdaaGreatDoorMLawMV52
namespace Go.Proofs.YtgpgladbdoimdaaGreatDoor
open Go.ChangeShapes Go.WideShapes Go.ChangeAt Go.RowKit Go.Ev Go.Ids Go.SeqP
set_option maxRecDepth 20000
set_option maxHeartbeats 12000000
theorem II2(S:List Nat)(d:Nat)(x:Rx)(n:Nat)(hs:Mg x n)(hn:n≤200)(hi:TO x)(c:Nat)(hc:1≤c∧c≤9007199254740991)(e:Ed)(he:EZ e)(vp:Value)(path:List (List UInt8))(_A0:path.length≤1000)(ki:e.k=2):
  bu Tryz.prog 17 [pA d,.int .u64 c,eV e vp] [cN S d x,bW 1 vp (path.flatMap sC)] (fun r H=>∃(ev:Int) (vo vt:Value) (os:List a6) (ts:List aK) (S':List Nat),r=.tuple #[.agg #[vo,vt],.int .i64 ev]∧(ev=0→H6 x c e os ts)∧(ev≠0→os=[]∧ts=[])∧H=[dO vo os,gh vt ts,cN S' d x]):=by
 intro m0 X hS;obtain ⟨M0,bR⟩:=zP (au [cN S d x,bW 1 vp (path.flatMap sC)]);rw [←bR]at hS ⊢;obtain ⟨BA,SZ⟩:=he.k;have ha:=he.a;have hen:=he.n;have px:=he.t;have hKc:=hi.k c;obtain ⟨f1,f2,f3,f4,f5,f6,f7,f8,f9⟩:=hs;have err:∀{m:World} {b6:Nat} {w:Nat} {S':List Nat} {F:List az},(w:Int)≠0→Tr m0 M0 X m (ab b6 58 [.slice none 0 0,.slice none 0 0]::cN S' d x::F)→∃H',(∃(ev:Int) (vo vt:Value) (os:List a6) (ts:List aK) (S':List Nat),(.tuple #[.agg #[.slice none 0 0,.slice none 0 0],.int .i64 w]:Value)=.tuple #[.agg #[vo,vt],.int .i64 ev]∧(ev=0→H6 x c e os ts)∧(ev≠0→os=[]∧ts=[])∧H'=[dO vo os,gh vt ts,cN S' d x])∧Tr m0 M0 X m H':=by
  intro m b6 w S' F hw hS;refine ⟨_,⟨w,.slice none 0 0,.slice none 0 0,[],[],S',rfl,fun h=>absurd h hw,fun _=>⟨rfl,rfl⟩,rfl⟩,?_⟩;have hS:=(hS.tail.gV 4 J8).gV 22 J8;exact (hS.aH (Pre:=[dO (.slice none 0 0) [],gh (.slice none 0 0) [],cN S' d x]) JC).drop
 refine aP.zA Tryz.func17 ?_;refine ah ?_
 (try clear hS);intro b5 m hS;refine aa7 ?_
 (try clear hS);intro b6 m hS;refine aa7 ?_
 rw [zV (show¬(e.k:Int)<1 by omega)];refine ah ?_;rw [zV (show¬(e.k:Int)>5 by omega)];refine ah ?_;rw [zV (show¬(c:Int)<1 by omega)];refine ah ?_;rw [zV (show¬(c:Int)>9007199254740991 by omega)];refine ah ?_;refine RL.cM (lV S d x J9) ?_;clear hS;obtain ⟨l,hl⟩:=zP (dw x);rw [←hl];rintro v m _ ⟨S2,S',rfl⟩ hS;simp only [zC,zN]at hS;obtain ⟨A,cc,rfl,n9⟩:=Ev.Own.shape (show Ev.Own m S2 30 2 v l.length (l.flatMap iC) from hS.head);have fQ:=hS.aW (show bf S2 (.slice A l.length cc) l∈_ from JQ);have kl:l.length≤maxLen:=by
  obtain ⟨A',c',he,h8,h9⟩:=Js.shape fQ;exact wG h8 h9
 unfold maxLen at kl;refine aa7 ?_;have hS:=hS.perm (.swap ..);obtain ⟨s,mm,w,hS⟩:=gr hS;refine RL.cL (Fj _ d w (pA s) (pA mm) x.K (zS ..) (zO _ (zO _ (zS ..))) J9 c J9) fun m hS=>?_
 obtain ⟨S',hS⟩:=cR hS;refine ah ?_
 (try clear hS);intro b10 m hS;refine aa7 ?_
 (try clear hS);intro m hS;refine ah ?_
 refine RL.cU (nT e.v he.v) (fun m hS=>?_) (hs:=.nil);refine aZ ?_;obtain ⟨vb,Th⟩:=zP (((e.v.k:Int)!=5));obtain ⟨sp,ze⟩:=zP ((decide (1≤e.n)&&decide (e.a<l.length)&&decide (e.n≤l.length-e.a)));rw [←Th];refine aZ ?_;refine RL.N1 ?_;refine QN.N1 ?_;obtain ⟨k0,ib⟩:=zP (bI x.K c+1);rw [←ib]at hS;have hS:=(hS.aH (Pre:=ab b10 55 (oC (D9 c k0))::ab b6 58 [.slice none 0 0,.slice none 0 0]::ab b5 63 (eC e vp)::cN S' d x::bf S2 (.slice A l.length cc) l::[bW 1 vp (path.flatMap sC)]) JC).drop;refine WP.cut (X:=Unit) (fun _=>[(0,pA d),(5,pA b5),(6,pA b6),(7,.int .i64 0),(8,.slice A l.length cc),(9,.int .i64 l.length),(10,pA b10),(11,.int .i64 1),(12,.bool vb),(13,.bool sp)]) (fun _ m'=>Tr m0 M0 X m' (ab b10 55 (oC (D9 c k0))::ab b6 58 [.slice none 0 0,.slice none 0 0]::ab b5 63 (eC e vp)::cN S' d x::bf S2 (.slice A l.length cc) l::[bW 1 vp (path.flatMap sC)])) ?_ ?_
 ·refine ah ?_
  by_cases g1:1≤e.n
  ·rw [zW (show(e.n:Int)≥1 by omega)];refine ah ?_;rw [zW (show(e.a:Int)≥0 by omega)];refine ah ?_
   by_cases g2:e.a<l.length
   ·rw [zW (show(e.a:Int)<(l.length:Int) by omega)];refine ah ?_;rw [ag ((l.length:Int)-(e.a:Int)) J9 J9]
    by_cases g3:e.n≤l.length-e.a
    ·rw [zW (show(e.n:Int)≤(l.length:Int)-(e.a:Int) by omega)];refine ah ?_;obtain rfl:sp=true:=by rw [ze];simp [g1,g2,g3]
     exact QN.ar () JT hS
    ·rw [zV (show¬(e.n:Int)≤(l.length:Int)-(e.a:Int) by omega)];refine ah ?_;obtain rfl:sp=false:=by rw [ze];simp [g3]
     exact QN.ar () JT hS
   ·rw [zV (show¬(e.a:Int)<(l.length:Int) by omega)];refine ah ?_;obtain rfl:sp=false:=by rw [ze];simp [g2]
    exact QN.ar () JT hS
  ·rw [zV (show¬(e.n:Int)≥1 by omega)];refine ah ?_;obtain rfl:sp=false:=by rw [ze];simp [g1]
   exact QN.ar () JT hS
 ·clear hS;rintro _ m hS;refine WP.cut (X:=a6×Nat×List Nat) (fun z=>[(0,pA d),(6,pA b6),(7,.int .i64 0),(10,pA b10),(11,.int .i64 z.2.1)]) (fun z m'=>Rj x c e z.1 z.2.1∧Tr m0 M0 X m' (ab b10 55 (oC z.1)::ab b6 58 [.slice none 0 0,.slice none 0 0]::[cN z.2.2 d x])) ?_ ?_
  ·refine ah ?_;have kk:e.k=1∨e.k=2∨e.k=3∨e.k=4∨e.k=5:=by omega
   rcases kk with hk|hk|hk|hk|hk
   ·exfalso;omega
   ·rw [show((e.k:Int)==1)=false by rw [hk];rfl];refine ah ?_;rw [show((e.k:Int)==2)=true by rw [hk];rfl];refine ah ?_;rw [zV (show¬(e.a:Int)<0 by omega)];refine ah ?_
    by_cases g0:e.a≤l.length
    ·rw [zV (show¬(e.a:Int)>(l.length:Int) by omega)];refine ah ?_;refine RL.cM (Ga S' d x (.slice A l.length cc) S2 l e.a g0) ?_;clear hS;rintro _ m _ ⟨rfl,S4,rfl⟩ hS;simp only [zC,zN]at hS;refine aa7 ?_
     (try clear hS);intro m hS;refine ah ?_
     (try clear hS);intro m hS;refine ah ?_
     rw [show((e.k:Int)==1)=false by rw [hk];rfl];refine ah ?_;cases vb with
     |false=>
      refine ah ?_
      (try clear hS);intro m hS;refine ah ?_
      have hS:=(hS.aH (Pre:=ab b6 58 [.slice none 0 0,.slice none 0 0]::[cN S4 d x]) JC).drop;exact QN.bH (bY.cg aa hS rfl rfl rfl rfl JQ) ⟨_,rfl,err (w:=151) J8 hS⟩
     |true=>
      have eY:e.v.k≠5:=fun h=>by rw [h]at Th;cases Th
      refine ah ?_;refine RL.cU (rR e.v he.v) (fun m hS=>?_) (hs:=.nil);refine ah ?_
      (try clear hS);intro m hS;refine ah ?_
      (try clear hS);intro m hS;refine ah ?_
      obtain ⟨o,ho⟩:=zP (⟨⟨c,k0⟩,2,0,ub l e.a,F8 x.q l e.a,[],e.v.clean,[],O0,⟨O0,false⟩,⟨O0,false⟩⟩:a6);have hS:=(hS.aH (Pre:=ab b10 55 (oC ⟨⟨c,k0⟩,2,0,ub l e.a,F8 x.q l e.a,[],e.v.clean,[],O0,⟨O0,false⟩,⟨O0,false⟩⟩)::ab b6 58 [.slice none 0 0,.slice none 0 0]::[cN S4 d x]) JC).drop;rw [←ho]at hS;have Ht:o.n=1:=by rw [ho];rfl
      have DH:∀i∈o.names,i=O0∨Kn x.K i:=by
       rw [ho,hl];intro i hG;simp only [a6.names,yH,uT,uU]at hG;rcases hG with rfl|rfl|rfl|rfl|rfl
       ·exact Kn.CD hi e.a
       ·exact Kn.yy hi _ e.a
       all_goals exact .inl rfl
      have BL:o.id=⟨c,bI x.K c+1⟩:=by rw [ho,←ib]
      refine QN.ar (o,1,S4) JT ⟨⟨Ht.symm,by show 1≤4096;omega,yP 1,by rw [ho];exact yI _,BL,fun h1 h2 _=>?_,nh DH,fun h=>by rw [hk]at h;cases h⟩,hS⟩;obtain ⟨h3,h4⟩:=nl BL h1 DH;exact ⟨h1,h2,h3,h4,.inr (.inl (by rw [ho];exact ⟨rfl,he.v.clean,eY,rfl,rfl,rfl,rfl,rfl,rfl⟩)),by rw [ho];exact yI _⟩
    ·rw [zW (show(e.a:Int)>(l.length:Int) by omega)];refine ah ?_
     (try clear hS);intro m hS;refine ah ?_
     have hS:=(hS.aH (Pre:=ab b6 58 [.slice none 0 0,.slice none 0 0]::[cN S' d x]) JC).drop;exact QN.bH (bY.cg aa hS rfl rfl rfl rfl JQ) ⟨_,rfl,err (w:=150) J8 hS⟩
   ·exfalso;omega
   ·exfalso;omega
   ·exfalso;omega
  ·clear hS;rintro ⟨o,long,S3⟩ m ⟨hM,hS⟩;dsimp only at hM hS ⊢;refine ah ?_;have e0:=hM.id;have e1:o.id.k=k0:=by rw [e0,ib]
   have e2:=hM.le;have e3:=hM.pos;have e4:=hM.st
   by_cases t1:o.id.k≤9007199254740991
   ·rw [zV (show¬(o.id.k:Int)>9007199254740991 by omega)];refine ah ?_;rw [aq (long:Int) J9 J9,aq ((long:Int)-1) J9 J9,aq ((9007199254740991:Int)-(o.id.k:Int)) J9 J9]
    by_cases t2:o.id.k+long≤9007199254740992
    ·rw [zV (show¬(long:Int)-1>(9007199254740991:Int)-(o.id.k:Int) by omega)];refine ah ?_
     by_cases t3:o.st≤9007199254740991
     ·rw [zV (show¬(o.st:Int)>9007199254740991 by omega)];refine ah ?_;refine RL.aA aa hS [.tmp 281] (us:=[oV o]) (([o]:List a6).flatMap oC) rfl rfl rfl rfl rfl rfl JO rfl rfl rfl ?_;clear hS;intro b9 m hS;refine aa1 ?_;have hS:=hS.freeze J8;refine ah ?_
      (try clear hS);intro m hS;refine ah ?_
      have hS:=hS.gV 4 J8;have hS:=(hS.aH (Pre:=ab b6 58 [.slice (some ⟨b9,0,none⟩) 1 1,.slice none 0 0]::[dO (.slice (some ⟨b9,0,none⟩) 1 1) [o],gh (.slice none 0 0) [],cN S3 d x]) JC).drop;have hr:o.id.right=true:=by
       rw [e0];simp only [aL.right,num,wR,vY];omega
      exact QN.bH (bY.cg aa hS rfl rfl rfl rfl JQ) ⟨_,rfl,_,⟨0,_,_,[o],[],S3,rfl,fun _=>.inl ⟨o,rfl,rfl,hM.V2 hr (by rw [←hM.len];exact t2) t3,hM.id,hM.cY,hM.ins⟩,fun h=>absurd rfl h,rfl⟩,hS.tail⟩
     ·rw [zW (show(o.st:Int)>9007199254740991 by omega)];refine ah ?_
      (try clear hS);intro m hS;refine ah ?_
      have hS:=(hS.aH (Pre:=ab b6 58 [.slice none 0 0,.slice none 0 0]::[cN S3 d x]) JC).drop;exact QN.bH (bY.cg aa hS rfl rfl rfl rfl JQ) ⟨_,rfl,err (w:=155) J8 hS⟩
    ·rw [zW (show(long:Int)-1>(9007199254740991:Int)-(o.id.k:Int) by omega)];refine ah ?_
     (try clear hS);intro m hS;refine ah ?_
     have hS:=(hS.aH (Pre:=ab b6 58 [.slice none 0 0,.slice none 0 0]::[cN S3 d x]) JC).drop;exact QN.bH (bY.cg aa hS rfl rfl rfl rfl JQ) ⟨_,rfl,err (w:=155) J8 hS⟩
   ·rw [zW (show(o.id.k:Int)>9007199254740991 by omega)];refine ah ?_
    (try clear hS);intro m hS;refine ah ?_
    have hS:=(hS.aH (Pre:=ab b6 58 [.slice none 0 0,.slice none 0 0]::[cN S3 d x]) JC).drop;exact QN.bH (bY.cg aa hS rfl rfl rfl rfl JQ) ⟨_,rfl,err (w:=155) J8 hS⟩
end Go.Proofs.YtgpgladbdoimdaaGreatDoor
