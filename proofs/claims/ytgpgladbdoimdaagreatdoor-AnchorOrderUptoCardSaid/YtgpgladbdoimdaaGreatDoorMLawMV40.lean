/- Texts that belong together. -/
import Derived.Test.YtgpgladbdoimdaaGreatDoorMLawMV38
namespace Go.Proofs.YtgpgladbdoimdaaGreatDoor
open Go.ChangeShapes Go.WideShapes Go.ChangeAt Go.RowKit Go.Ev Go.Ids Go.SeqP
set_option maxRecDepth 20000
set_option maxHeartbeats 12000000
structure Tz(x x':Dx)(o:a6):Prop where
 es:x'.es=x.es
 q:x'.q.toUs=if o.k=1∨o.k=2 then x.q.run (oU o) o.n else x.q.toUs
 tr:x'.q.tr=true
 B:x'.B=x.B
 T:x'.T=x.T
 D:x'.D=x.D
 W:x'.W=x.W
 h:x'.h=x.h
 V:x'.V=x.V
 M:x'.M.length≤x.M.length+1
 nm:x'.nm≤x.nm+1
theorem NI(d:Nat)(x:Dx)(o:a6)(g:Good o)(ht:x.q.tr=true)(hq:x.q.Ok)(ep:x.q.us.length+o.n≤1000000)(hM:x.M.length<1000000)(hm:x.nm<1000000):
  bu Tryz.prog 167 [pA d,oV o] (aw::bC d x []) (fun r H=>(∃z,r=.bool z)∧∃x',Tz x x' o∧H=bC d x' []):=by
 by_cases hk:o.k=1
 ·refine (LJ d x o g hk ht hq ep).mono ?_;rintro r H ⟨rfl,S5,q',E,h1,h2,rfl⟩;exact ⟨⟨_,rfl⟩,{x with S5:=S5,q:=q',E:=E},⟨rfl,by rw [yS (.inl hk)];exact h1,h2,rfl,rfl,rfl,rfl,rfl,rfl,wA _,wA _⟩,rfl⟩
 have Ij:o.n=1:=by rw [a6.n,zX hk]
 intro m0 X hS;obtain ⟨M0,bR⟩:=zP (au (aw::bC d x []));rw [←bR]at hS ⊢;dsimp only [bC]at hS;refine aP.zA Tryz.func167 ?_;refine ah ?_
 (try clear hS);intro b2 m hS;refine aa7 ?_
 (try clear hS);intro b3 m hS;refine aa7 ?_
 (try clear hS);intro b5 m hS;refine aa7 ?_
 (try clear hS);intro m hS;refine ah ?_
 have kk:o.k=2∨o.k=3∨o.k=4:=by
  rcases g.kind with h|h|h|h
  ·exact absurd h.1 hk
  ·exact .inl h.1
  ·exact .inr (.inl h.1)
  ·exact .inr (.inr h.1)
 rw [show((o.k:Int)==1)=false from uN.2 J9];refine ah ?_;rcases kk with hk|hk|hk
 ·rw [show((o.k:Int)==2)=true by rw [hk];rfl];refine ah ?_;refine WP.bG [ab b2 24 [pA d],ab b3 55 (oC o),ab b5 101 (uC (oU o)),aw,IS d x] hS JD J7 ?_;refine aZ ?_;refine RH.cM (Mt x.S5 x.sq 1 x.q (oU o) ht hq J9) ?_;clear hS;rintro _ m _ ⟨rfl,S5,q',NO,Lk,rfl⟩ hS;simp only [zC,zN]at hS ⊢;refine ⟨JD,_,rfl,?_⟩;have fin:∀E,Tz x {x with S5:=S5,q:=q',E:=E} o:=fun E=>⟨rfl,by rw [yS (.inr hk),Ij];exact NO,Lk,rfl,rfl,rfl,rfl,rfl,rfl,wA _,wA _⟩
  cases hr:x.q.runs (oU o) 1 with
  |false=>
   refine ah ?_;refine QN.aj rfl rfl ⟨_,rfl,_,⟨⟨_,rfl⟩,_,fin x.E,rfl⟩,?_⟩;dsimp only [bC];exact (hS.aH JB).drop
  |true=>
   refine ah ?_;refine WP.bG [ab b2 24 [pA d],ab b3 55 (oC o),IS d x] hS JD J7 ?_;refine aZ ?_;refine ab2 ?_;refine RL.mapUpdate (k:=o.id) (es:=x.E) aa hS ko rfl rfl rfl rfl rfl rfl JQ JN rfl ?_;clear hS;intro m hS;refine ae8 ?_;refine ah ?_;have out:∀{m:World} {E:List (aL×Value)},Tr m0 M0 X m (bC d {x with S5:=S5,q:=q',E:=E} [])→∃H',((∃z,(.bool true:Value)=.bool z)∧∃x',Tz x x' o∧H'=bC d x' [])∧Tr m0 M0 X m H':=fun{m E} h=>⟨_,⟨⟨_,rfl⟩,_,fin E,rfl⟩,h⟩
   refine QN.aj rfl rfl ⟨_,rfl,out (E:=?E) ?_⟩
   rotate_left
   ·dsimp only [bC];exact (hS.aH JB).drop
 ·rw [show((o.k:Int)==2)=false by rw [hk];rfl];refine ah ?_;rw [show((o.k:Int)==3)=true by rw [hk];rfl];refine ah ?_;refine RL.cM (CJ x.S5 b2 d x.sq x.q _ _ _ _ _ _ _ o.fr.id) ?_;clear hS;rintro _ m _ ⟨⟨z1,rfl⟩,S5,rfl⟩ hS;simp only [zC,zN]at hS;refine aa1 ?_;have fin:∀S5 S6 vm M,M.length≤x.M.length+1→Tz x {x with S5:=S5,S6:=S6,vm:=vm,M:=M} o:=fun S5 S6 vm M h=>⟨rfl,by rw [zX J9],ht,rfl,rfl,rfl,rfl,rfl,rfl,h,wA _⟩
  cases z1 with
  |false=>
   refine ah ?_;refine QN.aj rfl rfl ⟨_,rfl,_,⟨⟨_,rfl⟩,_,fin S5 x.S6 x.vm x.M (wA _),rfl⟩,?_⟩;dsimp only [bC];exact (hS.aH JB).drop
  |true=>
  refine ah ?_;refine RL.cM (CJ S5 b2 d x.sq x.q _ _ _ _ _ _ _ o.to.id) ?_;clear hS;rintro _ m _ ⟨⟨z2,rfl⟩,S5,rfl⟩ hS;simp only [zC,zN]at hS;refine aa1 ?_;cases z2 with
  |false=>
   refine ah ?_;refine QN.aj rfl rfl ⟨_,rfl,_,⟨⟨_,rfl⟩,_,fin S5 x.S6 x.vm x.M (wA _),rfl⟩,?_⟩;dsimp only [bC];exact (hS.aH JB).drop
  |true=>
  refine ah ?_;have hS:=(hS.aH (Pre:=ab b2 24 [pA d]::ab b3 55 (oC o)::bC d {x with S5:=S5} []) JC).drop;refine WP.dQ hS rfl J7 ?_;refine aZ ?_;refine RH.cM (MX (ab b2 24 [pA d]::ab b3 55 (oC o)::bC d {x with S5:=S5} []) x.S6 x.vm x.M o J9 JQ) ?_ (hs:=bk.self _);clear hS;rintro _ m _ ⟨⟨kp,qb,rfl,W2⟩,rfl⟩ hS;rw [vI]at hS ⊢;refine ⟨an.self _,_,rfl,?_⟩;refine ah ?_;refine WP.nM [ab b2 24 [pA d],ab b3 55 (oC o),IS d x] hS JD rfl J7 ?_;refine aZ ?_;refine RH.one rfl J7 rfl ?_;refine RL.aA aa hS [.tmp 102] (us:=[oV o]) (oC o) rfl rfl rfl rfl rfl rfl JO rfl rfl rfl ?_;clear hS;intro b9 m hS;refine ⟨_,rfl,?_⟩;refine RL.N1 (RH.aD hS JD ?_);refine aZ ?_;refine RH.cM (Ph x.vm (.slice (some ⟨b9,0,none⟩) 1 1) x.S6 [b9] x.M.length kp 1 (x.M.flatMap oC) (oC o) W2 Nat.one_pos J9 (qN _) (fun u hu=>qN [o] u J2)) ?_;clear hS;rintro vm m _ ⟨S6,rfl⟩ hS;simp only [zC,zN]at hS ⊢;have kd:(x.M.flatMap oC).take (kp*22)++oC o++(x.M.flatMap oC).drop (kp*22)=(x.M.take kp++o::x.M.drop kp).flatMap oC:=by
   conv=>lhs;rw [←yG kp x.M,vG]
   have hl:((x.M.take kp).flatMap oC).length=kp*22:=by rw [Bm,yA,zR W2]
   rw [tE hl,List.drop_left' hl];simp [List.flatMap_append]
  have x5:x.M.length+1=(x.M.take kp++o::x.M.drop kp).length:=by simp;omega
  rw [kd,x5]at hS;obtain ⟨A8,c8,rfl,_⟩:=Ev.Own.shape (show Ev.Own m S6 55 22 vm _ _ from hS.head);refine ⟨JD,_,rfl,?_⟩;refine aZ ?_
  (try clear hS);intro m hS
  refine ab9 ?_;refine ah ?_;refine QN.aj rfl rfl ⟨_,rfl,_,⟨⟨_,rfl⟩,_,fin S5 S6 (.slice A8 (x.M.take kp++o::x.M.drop kp).length c8) (x.M.take kp++o::x.M.drop kp) J9,rfl⟩,?_⟩;dsimp only [bC];exact (hS.aH JC).drop
 ·rw [show((o.k:Int)==2)=false by rw [hk];rfl];refine ah ?_;rw [show((o.k:Int)==3)=false by rw [hk];rfl];refine ah ?_;refine WP.bG [ab b2 24 [pA d],ab b3 55 (oC o),IS d x] hS JD J7 ?_;refine aZ ?_;refine RH.cM (Py x.S8 x.mm x.nm hm o) ?_;clear hS;rintro _ m _ ⟨⟨z,rfl⟩,S8,rfl⟩ hS;simp only [zC,zN]at hS ⊢;refine ⟨JD,_,rfl,?_⟩;refine ah ?_;refine QN.aj rfl rfl ⟨_,rfl,_,⟨⟨_,rfl⟩,{x with S8:=S8,nm:=x.nm+1},⟨rfl,by rw [zX J9],ht,rfl,rfl,rfl,rfl,rfl,rfl,wA _,yP _⟩,rfl⟩,?_⟩;dsimp only [bC];exact (hS.aH JB).drop
end Go.Proofs.YtgpgladbdoimdaaGreatDoor
