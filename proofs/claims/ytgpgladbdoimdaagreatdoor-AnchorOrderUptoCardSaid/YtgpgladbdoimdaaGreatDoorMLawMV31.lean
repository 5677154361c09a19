/- Texts that belong together. -/
import Derived.Test.YtgpgladbdoimdaaGreatDoorMLawMV25
namespace Go.Proofs.YtgpgladbdoimdaaGreatDoor
open Go.ChangeShapes Go.WideShapes Go.ChangeAt Go.RowKit Go.Ev Go.Ids
set_option maxRecDepth 20000
set_option maxHeartbeats 1000000
theorem KY:bu Tryz.prog 81 [] [] (fun r H=>∃S s,r=pA s∧H=[pN S s 0]):=by
 intro m0 X hS;refine aP.zA Tryz.func81 ?_;refine go ?_;refine RL.makeMap hS nU rfl ?_;clear hS;intro rm m hS;refine ab4 ?_;refine ac8 ?_;(try clear hS);intro b m hS;refine ab4 ?_;obtain ⟨S,hS⟩:=gK (s:=b) (B:=0) (R:=[]) (rm:=rm) (w1:=.slice none 0 0) (w2:=.slice none 0 0) (F:=[]) (fun r hr=>by cases hr) hS;exact QN.aj rfl rfl ⟨_,rfl,_,⟨S,b,rfl,rfl⟩,hS⟩
theorem Oi(S:List Nat)(s B:Nat)(hB:B≤10000)(o:a6)(g:Good o):bu Tryz.prog 204 [pA s,oV o] [aw,pN S s B] (fun r H=>(∃o' q,r=.tuple #[oV o',.bool q]∧o'.t.length≤10000000)∧∃S',H=[pN S' s B]):=by
 intro m0 X hS;have hid:=g.id;simp only [aL.right,num,wR,vY]at hid;have jg:=g.small;refine aP.zA Tryz.func204 ?_;refine go ?_;refine RL.bn hS rfl rfl rfl ?_;(try clear hS);intro b3 m hS;refine ⟨_,rfl,?_⟩;refine go ?_;refine RL.aU aa rfl hS rfl rfl ?_;(try clear hS);intro b4 m hS;refine ⟨_,rfl,?_⟩;refine go ?_;refine zD (Db S s B o.id.c hB) ?_;clear hS;rintro _ m _ ⟨⟨n,rfl,hn⟩,S1,rfl⟩ hS;simp only [zC,zN]at hS;refine ⟨_,rfl,?_⟩;refine go ?_;rcases xA n o.id.k with aM|fW
 ·have hd:decide ((n:Int)<(o.id.k:Int))=true:=zW J9;rw [hd];refine go ?_;refine RL.er aa hS rfl rfl rfl rfl rfl YB YB JN YB ?_;(try clear hS);intro m hS;refine go ?_;have hS:Tr m0 (au [aw,pN S s B]) X m [pN S1 s B,ab b4 55 (oC o),ab b3 55 (oC o),aw]:=hS;exact QN.bH (bY.cg aa hS rfl rfl rfl rfl JQ) ⟨_,rfl,_,⟨⟨o,true,rfl,J9⟩,S1,rfl⟩,hS.drop (H:=[_])⟩
 ·have hd:decide ((n:Int)<(o.id.k:Int))=false:=zV J9;rw [hd];refine WP.bg rfl ?_;refine WP.skip (YE ?_);obtain ⟨w,hw⟩:=zP (min (n-o.id.k+1) 4096:Nat);refine WP.bG [ab b3 55 (oC o),aw] hS JD J7 ?_;refine go ?_;have DT:IntKind.u64.wrap (IntKind.u64.wrap ((n:Int)-(o.id.k:Int))+1)=((n-o.id.k+1:Nat):Int):=by rw [aq ((n:Int)-(o.id.k:Int)) J9 J9,aq _ J9 J9];omega
  have jb:IntKind.i64.wrap (if(4096:Int)<((n-o.id.k+1:Nat):Int)then 4096 else((n-o.id.k+1:Nat):Int))=(w:Int):=by
   have:(if(4096:Int)<((n-o.id.k+1:Nat):Int)then(4096:Int)else((n-o.id.k+1:Nat):Int))=(w:Int):=by split<;>omega
   rw [this,ag _ J9 J9]
  rw [DT,jb];refine zK (qF o g) (fun m hS=>?_);refine go ?_;refine zL (KO o g w J9 J9) ?_;clear hS;rintro _ m _ ⟨⟨o',q,rfl,vg⟩,rfl⟩ hS;simp only [yC]at hS;refine ⟨by simp only [yC];exact JD,_,rfl,?_⟩;refine ad1 ?_;intro m hS;have hS:Tr m0 (au [aw,pN S s B]) X m [pN S1 s B,ab b4 55 (oC o'),ab b3 55 (oC o),aw]:=hS;exact QN.bH (bY.cg aa hS rfl rfl rfl rfl JQ) ⟨_,rfl,_,⟨⟨o',q,rfl,vg⟩,S1,rfl⟩,hS.drop (H:=[_])⟩
theorem D1.up{B:Nat}{R:List Sr}(h:D1 B R):D1 (B+1) R:=fun r hr=>by
 obtain ⟨h1,h2,h3⟩:=h r hr;exact ⟨h1,J9,fun o ho=>by have:=h3 o ho;omega⟩
theorem Iz(c:Nat):∀R:List Sr,(bj (jP R) c=none)∨∃R1 r R2,R=R1++r::R2∧bj (jP R) c=some r.v∧∀S v L,cI (jP R) c v=jP (R1++⟨c,S,v,L⟩::R2)
 |[]=>.inl rfl
 |r::R=>by
  by_cases h:r.c=c
  ·exact .inr ⟨[],r,R,rfl,by simp [jP,bj,h],fun S v L=>by simp [jP,cI,h]⟩
  ·have e:bj (jP (r::R)) c=bj (jP R) c:=by simp [jP,bj,h]
   rw [e];rcases Iz c R with h1|⟨R1,r',R2,rfl,h2,h3⟩
   ·exact .inl h1
   ·exact .inr ⟨r::R1,r',R2,rfl,h2,fun S v L=>by
     have:=h3 S v L;simp only [jP,xK,yB]at this ⊢;rw [←this];simp [cI,h]⟩
theorem Bm:∀I:List a6,(I.flatMap oC).length=I.length*22
 |[]=>rfl
 |o::I=>by rw [vH,zY,Bm I];simp only [oC,yF,xE];omega
theorem GJ{cur:List Value}{L:List a6}{a:a6}(t:List UInt8)(CW:cur.take (L.length*22)=L.flatMap oC)(h:L[L.length-1]?=some a):(cur.set ((L.length-1)*22+8) (.string (str (a.t++t)))).take (L.length*22)=(L.dropLast++[{a with t:=a.t++t}]).flatMap oC:=by
 have e:L=L.dropLast++[a]:=by
  rcases List.eq_nil_or_concat L with rfl|⟨I,x,rfl⟩
  ·simp at h
  ·simp at h;simp [h]
 rw [List.take_set,CW];generalize hI:L.dropLast=I at e ⊢;subst e;have hl:(I.flatMap oC).length=I.length*22:=Bm I;simp only [zY,uW,Nat.add_sub_cancel,vG];rw [tA _ _ J9,hl,show I.length*22+8-I.length*22=8 from by omega];rfl
theorem RC(S:List Nat)(s B:Nat)(hB:B<10000)(o:a6)(g:Good o):bu Tryz.prog 166 [pA s,oV o] [aw,pN S s B] (fun _ H=>∃S',H=[pN S' s (B+1)]):=by
 intro m0 X hS;have up:∀{m:World} {S':List Nat} {F:List az} {v:Value},Tr m0 (au [aw,pN S s B]) X m (pN S' s B::F)→∃v',Ending.returned v=.returned v'∧∃H',(∃S',H'=[pN S' s (B+1)])∧Tr m0 (au [aw,pN S s B]) X m H':=fun{m S' F v} h=>by
  obtain ⟨rm,w1,w2,R,k,h⟩:=xg h;obtain ⟨S2,h⟩:=gK k.up h;exact ⟨v,rfl,_,⟨S2,rfl⟩,h.drop (H:=[_])⟩
 refine aP.zA Tryz.func166 ?_;refine go ?_;refine ac8 ?_;(try clear hS);intro b3 m hS;refine aa1 ?_;refine aa9 ?_;refine YK ?_;refine WP.bG [ab b3 55 (oC o),aw] hS JD J7 ?_;refine go ?_;refine zK (DS o g) (fun m hS=>?_);refine go ?_;refine zL (Db S s B o.id.c J9) ?_;clear hS;rintro _ m _ ⟨⟨n,rfl,hn⟩,S1,rfl⟩ hS;simp only [zC,zN]at hS;refine af2 ?_;refine go ?_;generalize decide (IntKind.u64.wrap ((n:Int)+1)<(o.id.k:Int))=q1;cases q1 with
 |true=>
  refine go ?_;exact QN.aj rfl rfl (up hS)
 |false=>
 refine go ?_;refine zD (Oi S1 s B J9 o g) ?_;clear hS;rintro _ m _ ⟨⟨o',q,rfl,vg⟩,S2,rfl⟩ hS;simp only [zC,zN]at hS;refine ab4 ?_;refine aa2 ?_;intro m hS;have hS:Tr m0 (au [aw,pN S s B]) X m [pN S2 s B,ab b3 55 (oC o'),aw]:=hS;cases q with
 |false=>
  refine go ?_;exact QN.aj rfl rfl (up hS)
 |true=>
 obtain ⟨rm,w1,w2,R,k,hS⟩:=xg hS;have hN:ab b3 55 (oC o')∈R.map Sr.A++[ab b3 55 (oC o'),aw]:=by simp
 refine go ?_;rcases Iz o'.id.c R with h|⟨R1,r,R2,rfl,h,LR⟩
 ·refine RH.lookup (κ:=Nat) (k:=o'.id.c) (es:=jP R) (v:=.slice none 0 0) aa ai.calm qG rfl J7 rfl rfl rfl rfl rfl rfl rfl JQ (by rw [h];rfl) rfl ?_;refine aR ?_;refine WP.bG [ab s 213 [.map (some rm),w1,w2],ab b3 55 (oC o'),aw] hS (an.ay YA) J7 ?_;refine aR ?_;refine WP.bG [ab s 213 [.map (some rm),w1,w2],ab b3 55 (oC o'),aw] hS (an.ay YA) J7 ?_;refine go ?_;refine ab2 ?_;refine RL.aA aa hS [.tmp 70] (us:=[oV o']) (oC o') rfl rfl rfl rfl rfl rfl JO rfl rfl rfl ?_;clear hS hN;intro b' m hS;refine aa1 ?_;refine RL.N1 (RH.aD hS (an.ay YA) ?_);refine ab2 ?_;have fQ:Sl m [] 22 (.slice (some ⟨b',0,none⟩) 1 1) (oC o'):=hS.aW (zS ..);have hS:=hS.empty 55 22 none;refine RL.dx aa hS (oC o') rfl rfl rfl rfl rfl .head (Src.cS fQ) rfl (fun u hu=>by simp only [oC,yH,uT,uU]at hu;rcases hu with rfl|rfl|rfl|rfl|rfl|rfl|rfl|rfl|rfl|rfl|rfl|rfl|rfl|rfl|rfl|rfl|rfl|rfl|rfl|rfl|rfl|rfl<;>rfl) J8 J8 ?_;clear hS fQ;intro v' m S' hS;refine ⟨_,rfl,?_⟩;refine RL.N1 (RH.aD hS (an.ay YA) ?_);refine RH.one rfl J7 rfl ?_;refine RL.mapUpdate (κ:=Nat) (k:=o'.id.c) (v:=v') (es:=jP R) aa hS qG rfl rfl rfl rfl rfl rfl JQ JN rfl ?_;clear hS;intro m hS;refine RL.N1 (RH.aD hS (an.ay YA) ?_);have hN:ab b3 55 (oC o')∈R.map Sr.A++[ab b3 55 (oC o'),aw]:=by simp
  refine ag7 ?_;intro b'' m hS;have hS:=((hS.tail.perm (.swap ..)).tail).perm (vU (l₁:=ab s 213 [.map (some rm),w1,w2]::mapA rm nU (cI (jP R) o'.id.c v')::R.map Sr.A)).symm;have e:cI (jP R) o'.id.c v'=jP (R++[⟨o'.id.c,S',v',[o']⟩]):=by
   rw [iX _ (lD.1 h)];simp [jP]
  have hS:Tr m0 (au [aw,pN S s B]) X m (CE s rm w1 w2 (R++[⟨o'.id.c,S',v',[o']⟩]) [ab b3 55 (oC o'),aw]):=by
   rw [e]at hS
   simpa [CE,Sr.A,lY]using hS
  obtain ⟨S9,hS⟩:=gK (B:=B+1) (fun r hr=>by
   rcases yL.1 hr with hr|hr
   ·exact k.up r hr
   ·simp only [zT]at hr;subst hr;exact ⟨YA,YA,fun x hx=>by simp only [zT]at hx;subst hx;omega⟩) hS
  exact ai8
 ·refine RH.lookup (κ:=Nat) (k:=o'.id.c) (es:=jP (R1++r::R2)) (v:=r.v) aa ai.calm qG rfl J7 rfl rfl rfl rfl rfl rfl rfl JQ (by rw [h];rfl) rfl ?_;have hm:aF r.S 55 22 r.v r.L.length (r.L.flatMap oC)∈CE s rm w1 w2 (R1++r::R2) [ab b3 55 (oC o'),aw]:=by simp [Sr.A]
  obtain ⟨fh,hlen,mJ⟩:=k r YA;obtain ⟨gg,cp,hv,_,_,_⟩:=hS.dG hm fh;have fQ:=hS.aW hm;rw [hv]at fQ ⊢;obtain ⟨a,ha⟩:∃a,r.L[r.L.length-1]?=some a:=⟨_,xW J9⟩;have pg:=mJ a (xU ha);have hw:IntKind.i64.wrap ((r.L.length:Int)-1)=((r.L.length-1:Nat):Int):=by rw [ag _ J9 J9];omega
  have hd:decide (((r.L.length-1:Nat):Int)≥0)=true:=zW J9;refine go ?_;rw [hw];refine go ?_;rw [hd];refine go ?_;refine RH.o8 aa ai.calm oC (fun _=>rfl) (fun m' h'=>hv▸JS.aW hm m' h') ha rfl rfl J7 rfl rfl rfl rfl rfl ?_;refine go ?_;refine RH.iN (fi:=[]) (ca:=[]) hS (Nz a o' J9 J9) rfl J7 rfl rfl rfl rfl rfl (.ro YA rfl .nil) ?_;clear hS;rintro _ m _ ⟨⟨q2,rfl⟩,rfl⟩ hS;simp only [yC]at hS;refine ⟨by simp only [yC];exact an.self _,_,rfl,?_⟩;refine go ?_;cases q2 with
  |false=>
   refine aR ?_;have hN:ab b3 55 (oC o')∈(R1++r::R2).map Sr.A++[ab b3 55 (oC o'),aw]:=by simp
   refine WP.bG [ab s 213 [.map (some rm),w1,w2],ab b3 55 (oC o'),aw] hS (an.ay YA) J7 ?_;refine go ?_;refine ab2 ?_;refine RL.aA aa hS [.tmp 70] (us:=[oV o']) (oC o') rfl rfl rfl rfl rfl rfl JO rfl rfl rfl ?_;clear hS hN;intro b' m hS;refine aa1 ?_;refine RL.N1 (RH.aD hS (an.ay YA) ?_);refine ab2 ?_;have Qu:Sl m [] 22 (.slice (some ⟨b',0,none⟩) 1 1) (oC o'):=hS.aW (zS ..);have hp:(CE s rm w1 w2 (R1++r::R2) [ab b3 55 (oC o'),aw]).Perm (r.A::ab s 213 [.map (some rm),w1,w2]::mapA rm nU (jP (R1++r::R2))::(R1.map Sr.A++(R2.map Sr.A++[ab b3 55 (oC o'),aw]))):=by
    simp only [CE,uJ,xK,wM,yB];exact ((vU (l₁:=ab s 213 [.map (some rm),w1,w2]::mapA rm nU (jP (R1++r::R2))::R1.map Sr.A)))
   have hS:=hS.tail.perm hp;rw [show r.A=aF r.S 55 22 (.slice (some ⟨gg,0,none⟩) r.L.length cp) r.L.length (r.L.flatMap oC) from by simp only [Sr.A,lY,hv]]at hS;refine RL.dx aa hS (oC o') rfl rfl rfl rfl rfl .head (Src.cS Qu) rfl (fun u hu=>by simp only [oC,yH,uT,uU]at hu;rcases hu with rfl|rfl|rfl|rfl|rfl|rfl|rfl|rfl|rfl|rfl|rfl|rfl|rfl|rfl|rfl|rfl|rfl|rfl|rfl|rfl|rfl|rfl<;>rfl) (wG (show r.L.length+1≤100000 by omega) J8) (by show(r.L.length+1)*200≤_;omega) ?_;clear hS Qu;intro v' m S' hS;refine ⟨_,rfl,?_⟩;refine RL.N1 (RH.aD hS (an.ay YA) ?_);refine RH.one rfl J7 rfl ?_;refine RL.mapUpdate (κ:=Nat) (k:=o'.id.c) (v:=v') (es:=jP (R1++r::R2)) aa hS qG rfl rfl rfl rfl rfl rfl JQ JN rfl ?_;clear hS;intro m hS;refine RL.N1 (RH.aD hS (an.ay YA) ?_);have hN:ab b3 55 (oC o')∈R1.map Sr.A++(R2.map Sr.A++[ab b3 55 (oC o'),aw]):=by simp
   refine ag7 ?_;intro b'' m hS;have hS:=hS.tail;rw [LR S' v' (r.L++[o'])]at hS;have hS:Tr m0 (au [aw,pN S s B]) X m (CE s rm w1 w2 (R1++⟨o'.id.c,S',v',r.L++[o']⟩::R2) [ab b3 55 (oC o'),aw]):=hS.perm (by
    simp only [CE,uJ,xK,wM,yB,Sr.A,lY,zY,uW,vG,vH,List.flatMap_nil,vI];exact (vU (l₁:=ab s 213 [.map (some rm),w1,w2]::mapA rm nU (jP (R1++⟨o'.id.c,S',v',r.L++[o']⟩::R2))::R1.map Sr.A)).symm)
   obtain ⟨S9,hS⟩:=gK (B:=B+1) (fun y hy=>by
    rcases yL.1 hy with hy|hy
    ·exact k.up y (by simp [hy])
    ·rcases yH.1 hy with rfl|hy
     ·refine ⟨YA,J6,fun x hx=>?_⟩;rcases yL.1 hx with hx|hx
      ·have:=mJ x hx;omega
      ·simp only [zT]at hx;subst hx;omega
     ·exact k.up y (by simp [hy])) hS
   exact ai8
  |true=>
   have hp:(CE s rm w1 w2 (R1++r::R2) [ab b3 55 (oC o'),aw]).Perm (r.A::ab s 213 [.map (some rm),w1,w2]::mapA rm nU (jP (R1++r::R2))::(R1.map Sr.A++(R2.map Sr.A++[ab b3 55 (oC o'),aw]))):=by
    simp only [CE,uJ,xK,wM,yB];exact ((vU (l₁:=ab s 213 [.map (some rm),w1,w2]::mapA rm nU (jP (R1++r::R2))::R1.map Sr.A)))
   obtain ⟨g',cap,cur,iI,N6,hle,kl,jW,CW,hS⟩:=(hS.perm hp).zj fh;rw [hv]at iI;cases iI;have CV:cur[(r.L.length-1)*22+8]?=some (.string (str a.t)):=by
    have:=jx oC (sz:=22) (fun _=>rfl) r.L _ a ha 8 J9;rw [←CW,xV]at this
    split at this
    ·exact this
    ·cases this
   have hN:ab b3 55 (oC o')∈R1.map Sr.A++(R2.map Sr.A++[ab b3 55 (oC o'),aw]):=by simp
   refine go ?_;refine RH.ld (j:=(r.L.length-1)*22+8) aa ai.calm rfl J7 rfl rfl (oX ..) rfl (zS ..) CV rfl ?_;refine go ?_;refine RH.binOp (LD _ a.t o'.t J9) (fun _=>rfl) ai.calm 7 rfl J7 rfl rfl rfl rfl ?_;refine go ?_;have aM:(r.L.length-1)*22+8<cur.length:=(yV.1 CV).1;refine RH.one rfl J7 rfl ?_;refine RL.aO (i:=(r.L.length-1)*22+8) (tb:=55) aa hS rfl (oX ..) rfl rfl rfl rfl .head (by simpa [Nat.blt_eq]using aM) ?_;clear hS hN;intro m hS;refine RL.N1 (RF.last J7 (QN.calm ?_));have hN:ab b3 55 (oC o')∈R1.map Sr.A++(R2.map Sr.A++[ab b3 55 (oC o'),aw]):=by simp
   refine ag7 ?_;intro b'' m hS;have hS:=hS.tail.rF (sz:=22) hle kl (by rw [vB];exact jW);rw [GJ o'.t CW ha]at hS;have ln:(r.L.dropLast++[{a with t:=a.t++o'.t}]).length=r.L.length:=by simp;omega
   have hS:Tr m0 (au [aw,pN S s B]) X m (CE s rm w1 w2 (R1++⟨r.c,[gg],r.v,r.L.dropLast++[{a with t:=a.t++o'.t}]⟩::R2) [ab b3 55 (oC o'),aw]):=hS.perm (by
    have e:jP (R1++⟨r.c,[gg],r.v,r.L.dropLast++[{a with t:=a.t++o'.t}]⟩::R2)=jP (R1++r::R2):=by simp [jP]
    simp only [CE];rw [e];simp only [uJ,xK,wM,yB,Sr.A,lY,hv,ln];exact (vU (l₁:=ab s 213 [.map (some rm),w1,w2]::mapA rm nU (jP (R1++r::R2))::R1.map Sr.A)).symm)
   obtain ⟨S9,hS⟩:=gK (B:=B+1) (fun y hy=>by
    rcases yL.1 hy with hy|hy
    ·exact k.up y (by simp [hy])
    ·rcases yH.1 hy with rfl|hy
     ·refine ⟨by rw [ln];exact fh,by rw [ln];omega,fun x hx=>?_⟩;rcases yL.1 hx with hx|hx
      ·have:=mJ x (List.dropLast_subset _ hx);omega
      ·simp only [zT]at hx;subst hx;have:=mJ a (xU ha);simp only [zY];omega
     ·exact k.up y (by simp [hy])) hS
   exact ai8
end Go.Proofs.YtgpgladbdoimdaaGreatDoor
