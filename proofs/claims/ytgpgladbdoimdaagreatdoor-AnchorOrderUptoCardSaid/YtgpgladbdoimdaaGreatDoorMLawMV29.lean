/- Texts that belong together. -/
import Derived.Test.YtgpgladbdoimdaaGreatDoorMLawMV25
namespace Go.Proofs.YtgpgladbdoimdaaGreatDoor
open Go.ChangeShapes Go.WideShapes Go.ChangeAt Go.RowKit Go.Ev Go.Ids Go.SeqP
set_option maxRecDepth 20000
set_option maxHeartbeats 1000000
theorem nT(v:Vl)(h:v.Ok):ee Tryz.prog 47 [vV v] [] (.int .i64 0):=by
 intro m0 X hS;obtain ⟨k,n,f,s⟩:=v;refine aP.zA Tryz.func47 ?_;refine ah ?_
 (try clear hS);intro b1 m hS;refine aa7 ?_
 refine ad9 ?_;rcases h with⟨h1,h2,h3,h4⟩|⟨h1,h2,h3,h4⟩|⟨h1,h2,h3,h4⟩|⟨h1,h3,h4⟩|⟨h1,h2,h4⟩|⟨h1,h2,h3,h4,h5⟩
 ·obtain rfl:k=0:=h1;obtain rfl:n=0:=h2;obtain rfl:f=0:=h3;obtain rfl:s=[]:=h4;exact ag3
 ·obtain rfl:k=5:=h1;obtain rfl:n=0:=h2;obtain rfl:f=0:=h3;obtain rfl:s=[]:=h4;exact ag3
 ·obtain rfl:k=1:=h1;obtain rfl:f=0:=h3;obtain rfl:s=[]:=h4;rcases h2 with h2|h2
  ·obtain rfl:n=0:=h2;exact ag3
  ·obtain rfl:n=1:=h2;exact ag3
 ·obtain rfl:k=2:=h1;obtain rfl:f=0:=h3;obtain rfl:s=[]:=h4;exact ag3
 ·obtain rfl:k=3:=h1;obtain rfl:n=0:=h2;obtain rfl:s=[]:=h4;exact ag3
 ·obtain rfl:k=4:=h1;obtain rfl:n=0:=h2;obtain rfl:f=0:=h3;have h4:s.length≤4096:=h4;refine ah ?_;rw [show((str s).size:Int)=(s.length:Int) by simp [bV],zW (show(s.length:Int)≤4096 by omega)];refine ah ?_;refine RL.cU (k9 s J9) fun m hS=>?_
  rw [show(aN s).isSome=true from h5];refine ah ?_;exact ab6
theorem K0:ee Tryz.prog 105 [vV .zero] [] (.bool true):=by
 intro m0 X hS;refine aP.zA Tryz.func105 ?_;refine ah ?_
 (try clear hS);intro b1 m hS;refine aa7 ?_
 refine RL.cU (nT .zero (.inl ⟨rfl,rfl,rfl,rfl⟩)) fun m hS=>?_
 refine ah ?_;exact ab6
theorem z8(o:a6):bu Tryz.prog 107 [oV o] [] (fun r H=>∃S,H=[bf S r o.names]):=by
 intro m0 X hS;refine aP.zA Tryz.func107 ?_;refine ah ?_
 (try clear hS);intro b1 m hS;refine aa7 ?_
 refine RL.aA aa hS [.tmp 4,.tmp 6,.tmp 9,.tmp 12,.tmp 14] (us:=[iV o.l,iV o.r,iV o.fr.id,iV o.to.id,iV o.p]) (o.names.flatMap iC) rfl rfl rfl rfl rfl rfl (by intro u hu;simp only [yH,uT,uU]at hu;rcases hu with rfl|rfl|rfl|rfl|rfl<;>rfl) rfl rfl rfl ?_;clear hS;intro b2 m hS;refine aa7 ?_;exact QN.aj rfl rfl ⟨_,rfl,_,⟨[b2],rfl⟩,Tr.drop (H:=[_]) hS⟩
theorem fZ(i:aL):(iC i).length=2:=rfl
theorem HF(l:List aL):∀u∈l.flatMap iC,u.oneCell'=true:=fun u hu=>by
 obtain ⟨a,_,ha⟩:=vS.1 hu;simp only [iC,yH,uT,uU]at ha;rcases ha with rfl|rfl<;>rfl
theorem FX(o:a6):bu Tryz.prog 111 [oV o] [] (fun r H=>∃S,H=[bf S r o.cY]):=by
 intro m0 X hS;refine aP.zA Tryz.func111 ?_;refine ah ?_
 (try clear hS);intro b1 m hS;refine aa7 ?_
 refine RL.cM (z8 o) ?_;clear hS;rintro v m _ ⟨S,rfl⟩ hS;simp only [zC,zN]at hS;obtain ⟨A,c,rfl,hc⟩:=Ev.Own.shape (show Ev.Own m S 30 2 v _ _ from hS.head);have If:o.names.length=5:=rfl;refine ⟨_,rfl,?_⟩;refine ah ?_;have hS:=hS.empty 30 2 none;refine (WP.loop (X:=Nat×Value×List Nat) (fun z=>[(1,pA b1),(3,z.2.1),(4,.slice A o.names.length c),(5,.int .i64 z.1)])
  (fun z m'=>z.1≤5∧Tr m0 (au []) X m' [bf z.2.2 z.2.1 ((o.names.take z.1).filter fun i=>!(decide (i=O0)||decide (i.c=o.id.c))),bf S (.slice A o.names.length c) o.names,ab b1 55 (oC o)]) (fun z=>5-z.1) (0,.slice none 0 0,[])
  YC ⟨yI _,hS⟩ ?_)
 clear hS;rintro ⟨i,w,S2⟩ m ⟨hi,hS⟩;dsimp only at hi hS ⊢;refine ah ?_;rcases xA i 5 with aM|fW
 ·rw [zW (show(i:Int)<(o.names.length:Int) by omega)];obtain ⟨x,hx⟩:∃x,o.names[i]?=some x:=⟨_,xW J9⟩;obtain ⟨g,c',he,_,_,_⟩:=hS.dG (show bf S (.slice A o.names.length c) o.names∈_ from JQ) J9;cases he;have hw:IntKind.i64.wrap ((i:Int)+1)=((i+1:Nat):Int):=by rw [ag _ J9 J9];simp
  have kd:((o.names.take i).filter fun i=>!(decide (i=O0)||decide (i.c=o.id.c))).length≤5:=wG (xD _ _) Jq;have Tc:o.names.take (i+1)=o.names.take i++[x]:=by rw [wB,hx];rfl
  have skip:(decide (x=O0)||decide (x.c=o.id.c))=true→(o.names.take (i+1)).filter (fun i=>!(decide (i=O0)||decide (i.c=o.id.c)))=(o.names.take i).filter fun i=>!(decide (i=O0)||decide (i.c=o.id.c)):=fun h=>by
   rw [Tc,xX,List.filter_cons_of_neg (by rw [h];decide),List.filter_nil,vI]
  refine ah ?_;refine ae2 ?_;refine RH.fg aa ai.calm iC fZ (JS.aW (zO _ (zS ..))) hx 0 (iC x) rfl rfl rfl J7 rfl rfl rfl rfl rfl rfl rfl ?_;refine aZ ?_;refine RH.cU (je x) fun m hS=>?_
  by_cases h0:x=O0
  ·rw [zW h0];refine ah ?_;rw [hw];exact QN.round (i+1,w,S2) YC ⟨J0,by dsimp only;rw [skip (by simp [h0])];exact hS⟩ J0
  ·rw [zV h0];refine aZ ?_;refine RH.kh aa ai.calm iC fZ (JS.aW (zO _ (zS ..))) hx 0 rfl rfl J7 rfl rfl rfl Jm rfl rfl rfl ?_;refine aZ ?_
   by_cases jT:x.c=o.id.c
   ·rw [show((x.c:Int)!=(o.id.c:Int))=false by simp [jT]];refine ah ?_;rw [hw];exact QN.round (i+1,w,S2) YC ⟨J0,by dsimp only;rw [skip (by rw [zW jT,Bool.or_true])];exact hS⟩ J0
   ·rw [show((x.c:Int)!=(o.id.c:Int))=true by simp;omega];refine ah ?_;refine RL.fg aa iC fZ (hS.aW (zO _ (zS ..))) hx 0 (iC x) rfl rfl rfl rfl rfl rfl rfl rfl ?_;refine ah ?_;refine RL.dh aa hS [.tmp 35] (us:=[iV x]) (iC x) rfl rfl rfl rfl rfl rfl rfl rfl rfl rfl .head JO (by have:=HF [x];simpa using this) Jy (by show(_+1)*16≤_;omega) ?_;clear hS;rintro b3 v3 m S3 hS;have e:(o.names.take (i+1)).filter (fun i=>!(decide (i=O0)||decide (i.c=o.id.c)))=((o.names.take i).filter fun i=>!(decide (i=O0)||decide (i.c=o.id.c)))++[x]:=by
     rw [Tc,xX];simp [h0,jT]
    refine aa7 ?_;rw [hw];refine QN.round (i+1,v3,S3) YC ⟨J0,?_⟩ J0;dsimp only;rw [e,bf,zY,vG]
    simpa using hS
 ·rw [zV (show¬(i:Int)<(o.names.length:Int) by omega)];refine ah ?_;obtain rfl:i=5:=by omega
  exact QN.aj rfl rfl ⟨_,rfl,_,⟨S2,rfl⟩,Tr.drop (H:=[_]) hS⟩
theorem IH(o:a6)(g:Good o):ee Tryz.prog 119 [oV o] [] (.agg (iR o).toArray):=by
 intro m0 X hS;have h1:=g.id;simp only [aL.right,num,wR,vY]at h1;have h2:=g.top;have h3:=g.small;refine aP.zA Tryz.func119 ?_;refine ah ?_
 (try clear hS);intro b1 m hS;refine aa7 ?_
 (try clear hS);intro b2 m hS;refine aa7 ?_
 refine ad8 ?_;refine RH.cU (mE o J9) fun m hS=>?_
 refine aZ ?_
 (try clear hS);intro m hS
 refine ah ?_;refine QN.bH (bY.MI aa hS rfl rfl rfl JQ) ⟨_,rfl,[],⟨?_,rfl⟩,hS.tail.tail⟩;rw [aq (o.n:Int) J9 J9,aq _ J9 J9];rfl
theorem OJ(o:a6)(g:Good o):ee Tryz.prog 110 [oV o,.int .i64 0,.int .i64 o.n] [] (.tuple #[oV o,.bool true]):=by
 intro m0 X hS;have h3:=g.small;have h4:=g.gq;refine aP.zA Tryz.func110 ?_;refine ah ?_
 (try clear hS);intro b3 m hS;refine aa7 ?_
 (try clear hS);intro b6 m hS;refine aa7 ?_
 refine RL.cU (mE o J9) fun m hS=>?_
 refine ah ?_;rw [zV (show¬(0:Int)≥(o.n:Int) by omega)];refine ah ?_;rw [zV (show¬(o.n:Int)>(o.n:Int) by omega)];refine ah ?_
 by_cases hk:o.k=1
 ·rw [show((o.k:Int)!=1)=false by rw [hk];rfl];refine ah ?_;obtain ⟨r,hr,Qh⟩:∃r,aN o.t=some r∧r.length=o.n:=by
   rcases g.kind with⟨_,h,_⟩|⟨h,_⟩|⟨h,_⟩|⟨h,_⟩
   ·obtain ⟨r,hr⟩:=uL.1 h;exact ⟨r,hr,by rw [a6.n,yS hk,hr];rfl⟩
   all_goals omega
  rw [←Qh];refine RL.cU (M8 o.t r hr J9 J9) fun m hS=>?_
  refine ah ?_
  (try clear hS);intro m hS;refine ah ?_
  (try clear hS);intro m hS;refine ah ?_
  exact QN.bH (bY.cg aa hS rfl rfl rfl rfl JR) ⟨_,rfl,[],⟨rfl,rfl⟩,hS.tail.tail⟩
 ·rw [show((o.k:Int)!=1)=true by simpa using(by omega:¬(o.k:Int)=1)];refine ah ?_
  (try clear hS);intro m hS;refine ah ?_
  exact QN.bH (bY.cg aa hS rfl rfl rfl rfl JR) ⟨_,rfl,[],⟨rfl,rfl⟩,hS.tail.tail⟩
end Go.Proofs.YtgpgladbdoimdaaGreatDoor
