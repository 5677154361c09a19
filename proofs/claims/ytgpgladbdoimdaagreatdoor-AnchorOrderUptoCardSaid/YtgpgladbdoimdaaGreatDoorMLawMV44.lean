/- Texts that belong together. -/
import Derived.Test.YtgpgladbdoimdaaGreatDoorMLawMV42
import Derived.Test.YtgpgladbdoimdaaGreatDoorMLawMV52
namespace Go.Proofs.YtgpgladbdoimdaaGreatDoor
open Go.ChangeShapes Go.WideShapes Go.ChangeAt Go.RowKit Go.Ev Go.Ids Go.SeqP
set_option maxRecDepth 20000
set_option maxHeartbeats 12000000
def o1:a6:=⟨⟨1,1⟩,1,0,O0,O0,[97,98,99],Vl.zero,[],O0,⟨O0,false⟩,⟨O0,false⟩⟩
def o2:a6:=⟨⟨2,1⟩,1,0,⟨1,1⟩,⟨1,2⟩,[120],Vl.zero,[],O0,⟨O0,false⟩,⟨O0,false⟩⟩
theorem n1:o1.n=3:=by decide+kernel
theorem n2:o2.n=1:=by decide+kernel
theorem Rm:Good o1 where
 id:=by decide
 top:=by rw [n1];decide
 names:=by decide
 own:=by rw [n1];decide
 kind:=.inl ⟨rfl,by decide+kernel,by rw [n1];decide,by rw [n1];decide,rfl,rfl,rfl,rfl,rfl,rfl⟩
 small:=by decide
theorem QT:Good o2 where
 id:=by decide
 top:=by rw [n2];decide
 names:=by decide
 own:=by rw [n2];decide
 kind:=.inl ⟨rfl,by decide+kernel,by rw [n2];decide,by rw [n2];decide,rfl,rfl,rfl,rfl,rfl,rfl⟩
 small:=by decide
theorem QQ:Us.Ok Bc.toUs:=⟨by simp [Bc,Fo.flat],by simp [Bc,Fo.flat],by simp [Bc],by simp [Bc],fun i p s a b h=>by cases h⟩
def U1:Us:=Us.run Bc.toUs (oU o1) 3
def U2:Us:=Us.run U1 (oU o2) 1
theorem oF:(im [] U1.ax).map (fun x=>x.2.id)=[⟨1,1⟩,⟨1,2⟩,⟨1,3⟩]:=by decide+kernel
theorem UG:U2.us.length=4:=by decide+kernel
theorem ZM:dJ [⟨1,1⟩,⟨1,2⟩,⟨1,3⟩] 1 true=(⟨⟨1,1⟩,true⟩,true):=by decide+kernel
theorem Zm:dJ [⟨1,1⟩,⟨1,2⟩,⟨1,3⟩] 3 false=(⟨O0,true⟩,true):=by decide+kernel
theorem YY:dJ [⟨1,1⟩,⟨1,2⟩,⟨1,3⟩] 4 true=(⟨O0,false⟩,false):=by decide+kernel
theorem OR:gX [] U2.ax ⟨⟨1,1⟩,true⟩=(1,true):=by decide+kernel
theorem TB:gX [] U2.ax ⟨O0,true⟩=(4,true):=by decide+kernel
theorem DI.s5{x:Dx}{n:Nat}(h:DI x n)(S:List Nat):DI {x with S5:=S} n:=⟨h.k,h.w,h.h,h.tr,h.q,h.us,h.B,h.V,h.M,h.nm,h.T,h.tl,h.D⟩
theorem DI.same{x:Dx}{n:Nat}(h:DI x n):∀T',bb T'→(∀c k,ak T' c k=ak (x.T++[]) c k)→T'.length≤4*(n+1):=fun T' h1 h2=>by
 obtain rfl:T'=x.T:=de h1 h.T fun c k=>by rw [h2,vI]
 have:=h.tl;omega
theorem Hu:bu Tryz.prog 9 [] [aw] (fun r H=>r=.bool true∧H=[]):=by
 intro m0 X hS;obtain ⟨M0,bR⟩:=zP (au [aw]);rw [←bR]at hS ⊢;have Ij:o1.cY=[]:=by decide+kernel
 have Qa:o2.cY=[⟨1,1⟩,⟨1,2⟩]:=by decide+kernel
 refine aP.zA Tryz.func9 ?_;refine aR ?_;refine zG Fq ?_;clear hS;rintro _ m _ ⟨d,x,rfl,hB,P8,hT,hD,hW,hh,hq,hM,hV,hE,DH,rfl⟩ hS;have hS:Tr m0 M0 X m (aw::bC d x []):=hS.perm (xI (l₁:=bC d x []) (l₂:=[aw]));refine ⟨_,rfl,?_⟩;refine aR ?_;refine RL.aA aa hS [.tmp 17] (us:=[oV o1]) (oC o1) rfl rfl rfl rfl rfl rfl JO rfl rfl rfl ?_;clear hS;intro b1 m hS;refine ⟨_,rfl,?_⟩;refine aR ?_;have Uq:x.q.Ok:=by rw [hq];exact QQ
 have Oq:DI x 0:=⟨fun c=>⟨0,by rw [P8];rfl⟩,hW,hh,by rw [hq];rfl,Uq,by rw [hq];decide,J9,by rw [hV];decide,by rw [hM];decide,J9,by rw [hT];exact bb.nil,by rw [hT];decide,by rw [hD,hT];exact (dU Canon.nil).symm⟩;have hS:=(hS.freeze J8).gV 4 J8;refine RL.dr (fi:=[]) (ca:=[]) hS (w7 d x 0 Oq J8 _ _ [o1] [] J8 J8 (fun o ho=>by
  rw [zT]at ho;subst ho;exact ⟨Rm,by rw [P8];rfl,by rw [Ij];intro i hi;cases hi⟩) Oq.same) rfl rfl rfl rfl JC ?_
 clear hS;rintro _ m _ ⟨⟨_,rfl⟩,x1,TL,Mx,rfl⟩ hS;simp only [bC,zC,zN]at hS;have hS:=(hS.aH (Pre:=aw::bC d x1 []) JC).drop;have P4:x1.T=[]:=de Mx.T bb.nil fun c k=>by rw [TL.T,hT];rfl
 have Qy:x1.D=[]:=by rw [Mx.D,P4];exact dU Canon.nil
 have P1:Canon x1.D:=by rw [Qy];exact Canon.nil
 have VU:x1.D.length≤1000000:=by rw [Qy];decide
 have WW:x1.q.toUs=U1:=by rw [TL.q,hq,qU,yS (.inl rfl),n1];rfl
 have NO:x1.q.Ok:=Mx.q;have MG:x1.q.ax=U1.ax:=by rw [←WW]
 refine ac9 ?_;have step:∀{m:World} {F:List az},Tr m0 M0 X m (bC d x1 []++F)→Tr m0 M0 X m (F++bC d x1 []):=fun h=>h.perm xI
 refine zH (rY d x1 P1 VU 1 true) ?_;clear hS;rintro _ m _ ⟨rfl,S5,rfl⟩ hS;rw [Qy,MG,oF,ZM];have hS:Tr m0 M0 X m (aw::bC d {x1 with S5:=S5} []):=hS.perm (xI (l₁:=bC d {x1 with S5:=S5} []) (l₂:=[aw]));refine ⟨_,rfl,?_⟩;refine aR ?_;refine RL.aU aa rfl hS rfl rfl ?_;(try clear hS);intro b2 m hS;refine ⟨_,rfl,?_⟩;refine aR ?_;refine RL.er aa hS rfl rfl rfl rfl rfl YB YB JN YB ?_;(try clear hS);intro m hS;have hS:Tr m0 M0 X _ (ab b2 32 (aC ⟨⟨1,1⟩,true⟩)::aw::bC d {x1 with S5:=S5} []):=hS;refine aR ?_;refine zH (rY d {x1 with S5:=S5} P1 VU 3 false) ?_;clear hS;rintro _ m _ ⟨rfl,S5,rfl⟩ hS;have e:=Zm;rw [←oF,←MG,←Qy]at e;rw [e];have hS:Tr m0 M0 X m (ab b2 32 (aC ⟨⟨1,1⟩,true⟩)::aw::bC d {x1 with S5:=S5} []):=hS.perm (xI (l₁:=bC d {x1 with S5:=S5} []) (l₂:=[_,aw]));refine ⟨_,rfl,?_⟩;refine aR ?_;refine RL.aU aa rfl hS rfl rfl ?_;(try clear hS);intro b4 m hS;refine ⟨_,rfl,?_⟩;refine aR ?_;refine RL.er aa hS rfl rfl rfl rfl rfl YB YB JN YB ?_;(try clear hS);intro m hS;have hS:Tr m0 M0 X _ (ab b4 32 (aC ⟨O0,true⟩)::ab b2 32 (aC ⟨⟨1,1⟩,true⟩)::aw::bC d {x1 with S5:=S5} []):=hS;refine aR ?_;refine zH (rY d {x1 with S5:=S5} P1 VU 4 true) ?_;clear hS;rintro _ m _ ⟨rfl,S5,rfl⟩ hS;have e:=YY;rw [←oF,←MG,←Qy]at e;rw [e];have hS:Tr m0 M0 X m (ab b4 32 (aC ⟨O0,true⟩)::ab b2 32 (aC ⟨⟨1,1⟩,true⟩)::aw::bC d {x1 with S5:=S5} []):=hS.perm (xI (l₁:=bC d {x1 with S5:=S5} []) (l₂:=[_,_,aw]));refine ⟨_,rfl,?_⟩;refine aR ?_;refine RL.aU aa rfl hS rfl rfl ?_;(try clear hS);intro b6 m hS;refine ⟨_,rfl,?_⟩;refine aR ?_;refine RL.er aa hS rfl rfl rfl rfl rfl YB YB JN YB ?_;(try clear hS);intro m hS;refine aR ?_;refine RL.aA aa hS [.tmp 40] (us:=[oV o2]) (oC o2) rfl rfl rfl rfl rfl rfl JO rfl rfl rfl ?_;clear hS;intro b7 m hS;refine ⟨_,rfl,?_⟩;refine aR ?_;have hS:=(hS.freeze J8).gV 4 J8;refine RL.dr (fi:=[]) (ca:=[]) hS (w7 d {x1 with S5:=S5} 1 (Mx.s5 S5) J8 _ _ [o2] [] J8 J8 (fun o ho=>by
  rw [zT]at ho;subst ho;refine ⟨QT,by rw [show eH ({x1 with S5:=S5}:Dx).es o2.id.c=kU [o1] (eH x.es) 2 from TL.k 2,kU,zX J8,P8];rfl,?_⟩;rw [Qa];intro i hi;refine ⟨3,?_,?_⟩
  ·show eH x1.es i.c=_;rw [TL.k,kU,n1];simp only [yH,uT,uU]at hi;rcases hi with rfl|rfl<;>rfl
  ·simp only [yH,uT,uU]at hi;rcases hi with rfl|rfl<;>decide) (Mx.s5 S5).same) rfl rfl rfl rfl JC ?_
 clear hS;rintro _ m _ ⟨⟨_,rfl⟩,x2,Xa,sK,rfl⟩ hS;simp only [bC,zC,zN]at hS;have hS:=(hS.aH (Pre:=ab b6 32 (aC ⟨O0,false⟩)::ab b4 32 (aC ⟨O0,true⟩)::ab b2 32 (aC ⟨⟨1,1⟩,true⟩)::aw::bC d x2 []) JC).drop;have Kk:x2.T=[]:=de sK.T bb.nil fun c k=>by rw [Xa.T];show ak (x1.T++[]) c k=0;rw [P4];rfl
 have Xm:x2.q.toUs=U2:=by
  rw [Xa.q,qU,yS (.inl rfl),n2,U2,←WW]
 have Lk:x2.q.Ok:=sK.q;have TV:x2.D=[]:=by rw [sK.D,Kk];exact dU Canon.nil
 have OX:x2.q.ax=U2.ax:=by rw [←Xm]
 have zy:x2.q.us.length=4:=by
  have:=xZ (fun u:Us=>u.us.length) Xm;exact this.trans UG
 refine ac9 ?_;refine zH (um d x2 ⟨⟨1,1⟩,true⟩ Lk J9 sK.tr (by rw [TV];decide)) ?_;clear hS;rintro _ m _ ⟨rfl,S5',rfl⟩ hS;have e:=OR;rw [←OX,←TV]at e;rw [e];have hS:Tr m0 M0 X m (ab b6 32 (aC ⟨O0,false⟩)::ab b4 32 (aC ⟨O0,true⟩)::ab b2 32 (aC ⟨⟨1,1⟩,true⟩)::aw::bC d {x2 with S5:=S5'} []):=hS.perm (xI (l₁:=bC d {x2 with S5:=S5'} []) (l₂:=[_,_,_,aw]));refine ⟨_,rfl,?_⟩;refine aR ?_;refine zH (um d {x2 with S5:=S5'} ⟨O0,true⟩ Lk (by show x2.q.us.length≤_;omega) sK.tr (by show x2.D.length<_;rw [TV];decide)) ?_;clear hS;rintro _ m _ ⟨rfl,S5',rfl⟩ hS;have e:=TB;rw [←OX,←TV]at e;rw [e];have hS:Tr m0 M0 X m (ab b6 32 (aC ⟨O0,false⟩)::ab b4 32 (aC ⟨O0,true⟩)::ab b2 32 (aC ⟨⟨1,1⟩,true⟩)::aw::bC d {x2 with S5:=S5'} []):=hS.perm (xI (l₁:=bC d {x2 with S5:=S5'} []) (l₂:=[_,_,_,aw]));refine ⟨_,rfl,?_⟩;refine aR ?_;refine RL.binOp (nz ⟨⟨1,1⟩,true⟩ ⟨⟨1,1⟩,true⟩) (fF _ _ _ _ _) rfl rfl rfl rfl ?_;refine aR ?_;refine RL.binOp (nz ⟨O0,true⟩ ⟨O0,true⟩) (fF _ _ _ _ _) rfl rfl rfl rfl ?_;refine aR ?_;exact QN.aj rfl rfl ⟨_,rfl,[],⟨rfl,rfl⟩,Tr.drop (H:=[]) hS⟩
open Go.AncP
def jI(us:List Un):List aL:=us.map (·.id)
def shown(D:List aG)(id:aL):Bool:=!hasB D id
theorem Hq{us:List Un}(cP:(ka us).Ok){id:aL}:(ka us).find id=if id∈jI us then((jI us).idxOf id:Int)else-1:=by
 by_cases h:id∈jI us
 ·rw [yS h];have hl:=List.idxOf_lt_length_of_mem h;have he:=List.getElem_idxOf hl;obtain ⟨i,hi⟩:=zP ((jI us).idxOf id);rw [←hi];have iA:i<us.length:=by rw [hi];simpa [jI]using hl
  have hu:((ka us).u i).id=id:=by
   show(us.getD i default).id=id;rw [uB,xW iA,uD];have h9:(jI us)[i]'(by rw [hi];exact hl)=id:=by simp only [hi];exact he
   rw [←h9];simp [jI]
  have hx:(ka us).idx id=some i:=by rw [←hu];exact cP.kB iA
  have hp:(ka us).place i=i:=cP.nI (by
   show(Ch 0 us.length).flat[i]?=some i;rw [fz,List.getElem?_range' iA];simp)
  rw [Us.find,hx];show(((ka us).place i:Nat):Int)=_;rw [hp]
 ·rw [zX h];have:(ka us).idx id=none:=Us.eP.2 h;rw [Us.find,this]
theorem N8{us:List Un}(cP:(ka us).Ok){i:Option aL}{c:Bool}(h0:∀x,i=some x→x≠O0){g:Nat}(h:P5 (jI us) i c=some g):kP us ⟨i.getD O0,c⟩=((g:Int),true):=by
 unfold P5 at h;unfold kP;cases i with
 |none=>
  simp only [yJ,jI,uF]at h;simp only [Option.getD_none,yT];rw [←h];cases c<;>rfl
 |some x=>
  simp only at h
  split at h
  ·rename_i hx;cases h;simp only [uD];rw [zX (h0 x rfl),Hq cP,yS hx,zX J9];cases c<;>rfl
  ·cases h
theorem Kq(D:List aG)(us:List Un)(n:Nat):iy D us n=Go.AncP.rH (shown D) (jI us) n:=by
 rw [iy,Go.AncP.rH,jI,←List.map_take,List.filter_map,uF];rfl
theorem IE{us:List Un}(cP:(ka us).Ok)(D:List aG){i:Option aL}{c:Bool}(h0:∀x,i=some x→x≠O0){g:Nat}(h:P5 (jI us) i c=some g):gX D us ⟨i.getD O0,c⟩=((Go.AncP.rH (shown D) (jI us) g:Int),true):=by
 rw [gX,N8 cP h0 h];simp only [yT,Int.toNat_natCast,Kq]
theorem Ks{l:List aL}{k:Nat}{b:Bool}{i:Option aL}{c:Bool}(h:mk l k b=some (i,c)):dJ l k b=(⟨i.getD O0,c⟩,true):=by
 unfold mk at h;unfold dJ
 split at h
 ·cases h
 ·rename_i hk;rw [zX J9]
  split at h
  ·rename_i hb;rw [yS hb]
   split at h
   ·cases h;rfl
   ·rename_i k';cases h;rw [yS J9,uB,show((k'+1:Nat):Int).toNat-1=k' by omega]
  ·rename_i hb;rw [zX hb]
   split at h
   ·rename_i hl;cases h;rw [yS J9,uB,Int.toNat_natCast]
   ·rename_i hl;cases h;rw [zX J9];rfl
theorem M1{q:Us}(hq:q.Ok):∀x∈jI q.ax,x≠O0:=fun x hx=>by
 obtain ⟨u,hu,rfl⟩:=vE.1 hx;obtain ⟨i,CY,rfl⟩:=vE.1 (show u∈q.F.flat.map q.u from hu);exact aL.mV (hq.right _ (Us.DO ((hq.mem i).1 CY)))
def lh(D:List aG)(q:Us):List aL:=(jI q.ax).filter (shown D)
theorem py(x:Rx):dw x=lh x.D x.q:=by rw [lh,jI,List.filter_map];rfl
theorem qR(D:List aG)(q:Us):(im D q.ax).map (·.2.id)=lh D q:=by
 have key:∀(us:List Un) (n:Nat),(((us.zipIdx n).map fun x=>(x.2,x.1)).filter fun x=>!hasB D x.2.id).map (·.2.id)=(us.map (·.id)).filter (shown D):=by
  intro us
  induction us with
  |nil=>intro n;rfl
  |cons u us ih=>
   intro n;simp only [List.zipIdx_cons,xK,List.filter_cons,shown];rw [←ih (n+1)]
   by_cases hb:hasB D u.id=true<;>simp [hb]
 exact key q.ax 0
theorem E1{q:Us}(hq:q.Ok)(D:List aG)(k:Nat)(b:Bool)(hk:k≤(lh D q).length):(dJ (lh D q) k b).2=true∧gX D q.ax (dJ (lh D q) k b).1=((k:Int),true):=by
 obtain ⟨i,c,g,h1,h2,h3,h4⟩:=Nr (p:=shown D) (b:=b) (show(jI q.ax).Nodup from hq.lz) hk;rw [show lh D q=(jI q.ax).filter (shown D) from rfl,Ks h1];exact ⟨rfl,by rw [IE hq.yk D (fun x hx=>M1 hq x (h4 x hx)) h2,h3]⟩
end Go.Proofs.YtgpgladbdoimdaaGreatDoor
