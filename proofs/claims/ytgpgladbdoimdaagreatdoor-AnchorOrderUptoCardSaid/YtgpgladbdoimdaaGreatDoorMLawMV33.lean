/- Texts that belong together. -/
import Derived.Test.YtgpgladbdoimdaaGreatDoorMLawMV29
namespace Go.Proofs.YtgpgladbdoimdaaGreatDoor
open Go.ChangeShapes Go.WideShapes Go.ChangeAt Go.RowKit Go.Ev Go.Ids Go.SeqP
set_option maxRecDepth 20000
set_option maxHeartbeats 12000000
theorem Good.X9{o:a6}(g:Good o):o.v.Ok:=by
 rcases g.kind with⟨_,_,_,_,_,h,_⟩|⟨_,h,_⟩|⟨_,h,_⟩|⟨_,h,_⟩
 ·rw [h];exact .inl ⟨rfl,rfl,rfl,rfl⟩
 all_goals exact h
theorem Gj(o:a6)(g:Good o):ee Tryz.prog 57 [oV o] [] (.int .i64 0):=by
 intro m0 X hS;have hid:=g.id;have SD:=hid;simp only [aL.right,num,wR,vY]at SD;have B6:=g.top;have jg:=g.small;have X3:=g.gq;have If:=g.vq;have nm:∀i∈o.names,named i=true:=g.names;refine aP.zA Tryz.func57 ?_;refine ah ?_
 (try clear hS);intro b1 m hS;refine aa7 ?_
 refine RL.cU (kK o.id) fun m hS=>?_
 rw [hid];refine ah ?_;refine RL.cU (ku o.l) fun m hS=>?_
 rw [nm o.l J1];refine ah ?_;refine RL.cU (ku o.r) fun m hS=>?_
 rw [nm o.r J1];refine aZ ?_;refine RL.N1 ?_;refine QN.N1 ?_;refine WP.cut (X:=Unit) (fun _=>[(1,pA b1),(3,.bool false),(4,.bool true),(5,.bool (decide (o.l=O0)&&decide (o.r=O0)))]) (fun _ m'=>Tr m0 (au []) X m' [ab b1 55 (oC o)]) ?_ ?_
 ·refine ah ?_;refine RL.cU (je o.l) fun m hS=>?_
  by_cases h:o.l=O0
  ·rw [zW h];refine ah ?_;refine RL.cU (je o.r) fun m hS=>?_
   exact ag4
  ·rw [zV h];exact ag4
 clear hS;rintro _ m hS;refine WP.cut (X:=Unit) (fun _=>[(1,pA b1),(3,.bool false),(4,.bool true),(5,.bool (decide (o.l=O0)&&decide (o.r=O0))),(6,.bool (decide (o.fr=⟨O0,false⟩)&&decide (o.to=⟨O0,false⟩)))]) (fun _ m'=>Tr m0 (au []) X m' [ab b1 55 (oC o)]) ?_ ?_
 ·refine ah ?_;refine RL.binOp (nz o.fr ⟨O0,false⟩) (fF _ _ _ _ _) rfl rfl rfl rfl ?_
  by_cases h:o.fr=⟨O0,false⟩
  ·rw [zW h];refine ah ?_;refine RL.binOp (nz o.to ⟨O0,false⟩) (fF _ _ _ _ _) rfl rfl rfl rfl ?_;exact ag4
  ·rw [zV h];exact ag4
 clear hS;rintro _ m hS;refine WP.cut (X:=Unit) (fun _=>[(1,pA b1),(3,.bool false),(4,.bool true),(5,.bool (decide (o.l=O0)&&decide (o.r=O0))),(6,.bool (decide (o.fr=⟨O0,false⟩)&&decide (o.to=⟨O0,false⟩))),(7,.bool (decide (1≤o.st∧o.st≤9007199254740991)))]) (fun _ m'=>Tr m0 (au []) X m' [ab b1 55 (oC o)]) ?_ ?_
 ·refine ah ?_
  by_cases h:1≤o.st
  ·rw [zW (show(o.st:Int)≥1 by omega)];refine ah ?_;refine QN.ar () (Sub.C1 rfl (Sub.C1 rfl (Sub.C1 rfl (Sub.C1 rfl (Sub.C1 rfl (Sub.C1 ?_ Sub.nil)))))) hS;rw [show decide (1≤o.st∧o.st≤9007199254740991)=decide ((o.st:Int)≤9007199254740991) by rw [uZ];simp only [vY];omega];rfl
  ·rw [zV (show¬(o.st:Int)≥1 by omega)];refine ah ?_;refine QN.ar () (Sub.C1 rfl (Sub.C1 rfl (Sub.C1 rfl (Sub.C1 rfl (Sub.C1 rfl (Sub.C1 ?_ Sub.nil)))))) hS;rw [show decide (1≤o.st∧o.st≤9007199254740991)=false from zV fun h'=>h h'.1];rfl
 clear hS;rintro _ m hS;refine ah ?_;refine RL.cU (nT o.v g.X9) fun m hS=>?_
 refine aZ ?_;refine RL.N1 ?_;refine QN.N1 ?_;refine WP.cut (X:=Unit) (fun _=>[(1,pA b1),(3,.bool true)]) (fun _ m'=>Tr m0 (au []) X m' [ab b1 55 (oC o)]) ?_ ?_
 ·obtain ⟨id,k,st,l,r,t,v,key,p,fr,tt⟩:=o;rcases g.kind with⟨h1,h2,h3,h4,h5,h6,h7,h8,h9,Gd⟩|⟨h1,h2,h3,h4,h5,h6,h7,h8,h9⟩|⟨h1,h2,h3,h4,h5,h6,h7,h8,h9⟩|⟨h1,h2,h3,h4,h5,h6,h7,h8,h9⟩
  ·obtain rfl:k=1:=h1;obtain rfl:st=0:=h5;obtain rfl:v=.zero:=h6;obtain rfl:key=[]:=h7;obtain rfl:p=O0:=h8;obtain rfl:fr=⟨O0,false⟩:=h9;obtain rfl:tt=⟨O0,false⟩:=Gd;refine ah ?_;have RT:t.length<1000000000:=by
    have:t.length≤1000000:=jg;omega
   refine RL.cU (BN t RT) fun m hS=>?_
   refine ah ?_;refine RL.cU (k9 t RT) fun m hS=>?_
   rw [show(aN t).isSome=true from h2];refine ah ?_;rw [zW (show((((aN t).getD []).length:Nat):Int)≥1 by have:1≤((aN t).getD []).length:=h3;omega)];refine ah ?_;rw [zW (show((((aN t).getD []).length:Nat):Int)≤4096 by have:((aN t).getD []).length≤4096:=h4;omega)];refine ah ?_;have e1:id.k+((aN t).getD []).length≤9007199254740992:=B6;have e2:1≤id.k:=SD.2.1;rw [aq ((((aN t).getD []).length:Nat):Int) J9 J9,aq ((id.k:Int)+_) J9 J9,aq _ J9 J9,zW (show((id.k:Int)+(((aN t).getD []).length:Nat)-1)≤9007199254740991 by omega)];refine ah ?_;refine RL.cU K0 fun m hS=>?_
   refine ah ?_;rw [bZ];refine ah ?_;refine RL.cU (je O0) fun m hS=>?_
   exact ag4
  ·obtain rfl:k=2:=h1;obtain rfl:st=0:=h4;obtain rfl:t=[]:=h5;obtain rfl:key=[]:=h6;obtain rfl:p=O0:=h7;obtain rfl:fr=⟨O0,false⟩:=h8;obtain rfl:tt=⟨O0,false⟩:=h9;refine ah ?_;rw [show((v.k:Int)!=5)=true by simpa using(by have:v.k≠5:=h3;omega:¬(v.k:Int)=5)];refine ah ?_;rw [bZ];refine ah ?_;rw [bZ];refine ah ?_;refine RL.cU (je O0) fun m hS=>?_
   exact ag4
  ·obtain rfl:k=3:=h1;obtain rfl:t=[]:=h6;obtain rfl:l=O0:=h7;obtain rfl:r=O0:=h8;obtain rfl:p=O0:=h9;have iw:decide (1≤st∧st≤9007199254740991)=true:=zW h4;rw [iw];refine ah ?_;refine RL.cU (ku fr.id) fun m hS=>?_
   rw [nm fr.id J1];refine ah ?_;refine RL.cU (ku tt.id) fun m hS=>?_
   rw [nm tt.id J1];refine ah ?_;refine RL.cU (Ii key h5) fun m hS=>?_
   refine ah ?_;rw [show((v.k:Int)!=5)=true by simpa using(by have:v.k≠5:=h3;omega:¬(v.k:Int)=5)];refine ah ?_;rw [bZ];refine ah ?_;refine RL.cU (je O0) fun m hS=>?_
   exact ag4
  ·obtain rfl:k=4:=h1;obtain rfl:t=[]:=h5;obtain rfl:l=O0:=h6;obtain rfl:r=O0:=h7;obtain rfl:fr=⟨O0,false⟩:=h8;obtain rfl:tt=⟨O0,false⟩:=h9;have iw:decide (1≤st∧st≤9007199254740991)=true:=zW h3;rw [iw];refine ah ?_;refine RL.cU (ku p) fun m hS=>?_
   rw [nm p J1];refine ah ?_;refine RL.cU (Ii key h4) fun m hS=>?_
   refine ah ?_;rw [bZ];exact ag4
 clear hS;rintro _ m hS;refine ah ?_;refine RL.cM (z8 o) ?_;clear hS;rintro v m _ ⟨S,rfl⟩ hS;simp only [zC,zN]at hS;obtain ⟨A,c,rfl,hc⟩:=Ev.Own.shape (show Ev.Own m S 30 2 v _ _ from hS.head);have hnn:o.names.length=5:=rfl;refine ⟨_,rfl,?_⟩;refine ah ?_;refine (WP.loop (X:=Nat) (fun i=>[(1,pA b1),(10,.slice A o.names.length c),(11,.int .i64 i)])
  (fun i m'=>i≤5∧Tr m0 (au []) X m' [bf S (.slice A o.names.length c) o.names,ab b1 55 (oC o)]) (fun i=>5-i) 0
  YC ⟨yI _,hS⟩ ?_)
 clear hS;rintro i m ⟨hi,hS⟩;refine ah ?_;rcases xA i 5 with aM|fW
 ·rw [zW (show(i:Int)<(o.names.length:Int) by omega)];obtain ⟨x,hx⟩:∃x,o.names[i]?=some x:=⟨_,xW J9⟩;have QL:=xU hx;have jh:=g.own x QL;obtain ⟨gg,c',he,_,_,_⟩:=hS.dG (zS ..) J9;cases he;have hw:IntKind.i64.wrap ((i:Int)+1)=((i+1:Nat):Int):=by rw [ag _ J9 J9];simp
  refine ah ?_;refine ae2 ?_;refine RH.kh aa ai.calm iC fZ (JS.aW (zS ..)) hx 0 rfl rfl J7 rfl rfl rfl Jm rfl rfl rfl ?_;refine aZ ?_
  by_cases jT:x.c=o.id.c
  ·rw [show((x.c:Int)==(o.id.c:Int))=true by simp [jT]];refine aZ ?_;refine RH.kh aa ai.calm iC fZ (JS.aW (zS ..)) hx 1 rfl rfl J7 rfl rfl rfl Jm rfl rfl rfl ?_;refine aZ ?_
   by_cases sL:o.id.k≤x.k
   ·rw [zW (show(x.k:Int)≥(o.id.k:Int) by omega)];refine aZ ?_;refine RH.kh aa ai.calm iC fZ (JS.aW (zS ..)) hx 1 rfl rfl J7 rfl rfl rfl Jm rfl rfl rfl ?_;refine aZ ?_;refine RH.cU (mE o J9) fun m hS=>?_
    refine aZ ?_;have PD:x.k≤9007199254740991:=by
     have:=nm x QL;simp only [named,wS,vY]at this;rcases this with h|h
     ·rw [h];decide
     ·simp only [aL.right,num,wR,vY]at h;omega
    rw [aq ((x.k:Int)-(o.id.k:Int)) J9 J9,aq (o.n:Int) J9 J9,zV (show¬((x.k:Int)-(o.id.k:Int))<(o.n:Int) by omega)];refine ah ?_;exact ai4
   ·rw [zV (show¬(x.k:Int)≥(o.id.k:Int) by omega)];refine ah ?_;exact ai4
  ·rw [show((x.c:Int)==(o.id.c:Int))=false by simpa using(by omega:¬(x.c:Int)=o.id.c)];refine ah ?_;exact ai4
 ·rw [zV (show¬(i:Int)<(o.names.length:Int) by omega)];refine ah ?_;exact ai3
end Go.Proofs.YtgpgladbdoimdaaGreatDoor
