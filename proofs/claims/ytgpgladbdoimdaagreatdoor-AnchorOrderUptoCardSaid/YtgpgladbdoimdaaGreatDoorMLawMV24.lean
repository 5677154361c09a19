/- Texts that belong together. -/
import Derived.Test.YtgpgladbdoimdaaGreatDoorMLawMV20
namespace Go.Proofs.YtgpgladbdoimdaaGreatDoor
open Go.ChangeShapes Go.WideShapes Go.ChangeAt Go.RowKit Go.Ev Go.Ids Go.SeqP
set_option maxRecDepth 20000
set_option maxHeartbeats 2000000
theorem ye{q:Us}{x:Un}:∀{l:List Nat} {j:Nat},j≤l.length→(∀n y,n<j→l[n]?=some y→q.ahead (q.u y) x=true)→(∀y,l[j]?=some y→q.ahead (q.u y) x=false)→q.kR l x=j
 |[],j,hj,_,_=>by simp at hj;subst hj;rfl
 |a::l,0,_,_,h2=>by simp [Us.kR,h2 a rfl]
 |a::l,j+1,hj,h1,h2=>by
  have ih:=ye (q:=q) (x:=x) (l:=l) (j:=j) (by simpa using hj) (fun n y hn hy=>h1 (n+1) y J9 (by simpa using hy)) (fun y hy=>h2 y (by simpa using hy));have h3:=h1 0 a J9 rfl;unfold Us.kR at ih ⊢;simp only [uG,h3,yT,yF,ih]
theorem An(S:List Nat)(s b:Nat)(q:Sq)(x:Un)(l:Nat)(hl:l<q.us.length)(ht:q.tr=true)(hq:q.Ok)(ep:q.us.length<1000000){p:Option Nat}{sd:Bool}{fa fb:Fo}(hA:Fo.At q.F none false l p sd fa fb):bu Tryz.prog 262 [pA s,pA b,pA (q.a l)] [a7 S s q,ab b 178 (nC x none (.slice none 0 0) (.slice none 0 0) 1)]
  (fun v H=>v=.int .i64 (q.place l+1+Fo.pre (q.kR fb.roots x) fb:Nat)∧∃ra rt fr at_ ord ro N d R,pJ q fr at_ ord ro N∧N[l]?=some d∧R.xs=aB (q.kR fb.roots x) b d.rr.xs∧H=fU q s ra rt fr at_ ord ro (N.set l {d with rr:=R}) [ab b 178 (nC x (some (q.a l)) (.slice none 0 0) (.slice none 0 0) 1)]):=by
 intro m0 X hS;refine aP.zA Tryz.func262 ?_;refine aj0 ?_;intro m hS;have hT:Tr m0 (au [a7 S s q,ab b 178 (nC x none (.slice none 0 0) (.slice none 0 0) 1)]) X m [a7 S s q,ab b 178 (nC x (some (q.a l)) (.slice none 0 0) (.slice none 0 0) 1)]:=hS;clear hS;refine go ?_;refine WP.nM [] hT .nil rfl J7 ?_;have hS:=hT;clear hT;refine go ?_;obtain ⟨ra,rt,fr,at_,ord,ro,N,k,hU⟩:=bl hS;obtain ⟨d,d1,d2,d3,d4,d5,d6,d7,d8⟩:=k.node ht hl hA;have hN:ab (q.a l) 178 (nC (q.u l) d.p d.rl.v d.rr.v d.sz)∈fU q s ra rt fr at_ ord ro N [ab b 178 (nC x (some (q.a l)) (.slice none 0 0) (.slice none 0 0) 1)]:=by rw [←d4,←d3];simp only [yH,yL];exact .inr (.inr (.inr (.inr (.inr (.inl (bc d2).1)))))
 refine ab2 ?_;refine RL.Tg aa hU rfl rfl rfl hN rfl rfl rfl ?_;refine RL.N1 (RH.aD hS .nil ?_);clear hU hN;refine go ?_;refine zL (ml S s q (q.u l).id) ?_;clear hS;rintro _ m _ ⟨rfl,S2,rfl⟩ hS;simp only [zC,zN]at hS;refine ⟨.nil,_,rfl,?_⟩;have hf:q.find (q.u l).id=q.place l:=by simp [Us.find,hq.kB hl]
 have OR:=(hq.nR hA).2;rw [hf];have WU:IntKind.i64.wrap ((q.place l:Int)+1)=((q.place l+1:Nat):Int):=by rw [ag _ J9 J9];omega
 refine go ?_;rw [WU];have iD:=kW fb;refine (WP.eo (X:=Nat) (fun j=>[(0,pA s),(1,pA b),(2,pA (q.a l)),(7,.pointer (some (Addr.add ⟨q.a l,0,none⟩ 8))),(8,.int .i64 (q.place l+1+Fo.pre j fb:Nat)),(9,.int .i64 j)])
  (fun j m'=>j≤fb.roots.length∧(∀n y,n<j→fb.roots[n]?=some y→q.ahead (q.u y) x=true)∧∃S',Tr m0 (au [a7 S s q,ab b 178 (nC x none (.slice none 0 0) (.slice none 0 0) 1)]) X m' [a7 S' s q,ab b 178 (nC x (some (q.a l)) (.slice none 0 0) (.slice none 0 0) 1)])
  (fun j m'=>j=q.kR fb.roots x∧∃S',Tr m0 (au [a7 S s q,ab b 178 (nC x none (.slice none 0 0) (.slice none 0 0) 1)]) X m' [a7 S' s q,ab b 178 (nC x (some (q.a l)) (.slice none 0 0) (.slice none 0 0) 1)]) (fun j=>fb.roots.length-j) 0 0
  YC ⟨yI _,fun n y hn=>J9,_,hS⟩ ?_ ?_)
 ·clear hS;rintro j m ⟨hj,Bz,S1,hS⟩;dsimp only at hj Bz hS ⊢;obtain ⟨ra,rt,fr,at_,ord,ro,N,k,hS⟩:=bl hS;obtain ⟨d,d1,d2,d3,d4,d5,d6,d7,d8⟩:=k.node ht hl hA;have hN:ab (q.a l) 178 (nC (q.u l) d.p d.rl.v d.rr.v d.sz)∈eZ N++[ab b 178 (nC x (some (q.a l)) (.slice none 0 0) (.slice none 0 0) 1)]:=by rw [←d4,←d3];exact yW _ (bc d2).1
  have gN:aF d.rr.S 176 1 d.rr.v d.rr.xs.length (d.rr.xs.map pA)∈fU q s ra rt fr at_ ord ro N [ab b 178 (nC x (some (q.a l)) (.slice none 0 0) (.slice none 0 0) 1)]:=by simp only [yH,yL];exact .inr (.inr (.inr (.inr (.inr (.inl (bc d2).2.2)))))
  have fI:d.rr.xs=fb.roots.map q.a:=d8;have hlen:d.rr.xs.length=fb.roots.length:=by rw [fI,uF]
  rcases tL hj with xy|xy
  ·obtain ⟨A,c,hv,hc⟩:=Rw.shape hS gN;refine go ?_;rw [hv];refine go ?_;have so:decide ((j:Int)<(d.rr.xs.length:Int))=false:=zV J9;rw [so];refine go ?_;obtain ⟨S3,hS⟩:=a8 k hS;refine WP.exit (QN.tx (QN.tx (QN.du j YC ⟨?_,S3,hS⟩)));exact (ye hj Bz fun y hy=>absurd (yV.1 hy).1 J9).symm
  ·obtain ⟨y,hy⟩:=zQ xy;obtain ⟨fl,fr',hn⟩:=Fo.nS _ _ _ hy;have MC:=(At.below hA (.inr (At.Du (some l) false hn)));have Be:=(k.ok.mem y).1 MC.mem.1;have sU:=Fo.nV _ _ _ _ _ hn;have N0:=Fo.kY (j+1) fb;obtain ⟨g,c',iI,_,_,_⟩:=hS.dG gN J9;have jg:=hS.aW gN;rw [iI]at jg;have gi:(d.rr.xs.map pA)[j*1]?=some (pA (q.a y)):=by rw [uO,fI,uM,xM,hy];rfl
   have so:decide ((j:Int)<(d.rr.xs.length:Int))=true:=zW J9;refine go ?_;rw [iI];refine go ?_;rw [so];refine go ?_;rw [iI];refine go ?_;refine RL.GX aa jg gi rfl rfl rfl rfl rfl rfl ?_;refine go ?_;obtain ⟨S3,hS⟩:=a8 k hS;refine RL.dr (F:=[]) (fi:=[]) (ca:=[]) hS (CS S3 s q [ab b 178 (nC x (some (q.a l)) (.slice none 0 0) (.slice none 0 0) 1)] (q.a y) b (q.u y) x (.inl ⟨y,Be,rfl,rfl⟩) (.inr ⟨_,_,_,_,zS ..⟩)) rfl rfl rfl rfl (bk.self _) ?_;clear hS gN jg;rintro _ m _ ⟨rfl,S4,rfl⟩ hS;simp only [zC,zN]at hS;refine ⟨_,rfl,?_⟩;cases SB:q.ahead (q.u y) x with
   |false=>
    refine go ?_;refine WP.exit (QN.tx (QN.tx (QN.du j YC ⟨?_,S4,hS⟩)));exact (ye hj Bz fun y' s9=>by rw [hy]at s9;cases s9;exact SB).symm
   |true=>
    clear k;obtain ⟨ra,rt,fr,at_,ord,ro,N,k,hS⟩:=bl hS;obtain ⟨dy,y1,y2,y3,y4,y5,y6,y7,y8⟩:=k.node ht Be MC;have s3:ab (q.a y) 178 (nC (q.u y) dy.p dy.rl.v dy.rr.v dy.sz)∈eZ N++[ab b 178 (nC x (some (q.a l)) (.slice none 0 0) (.slice none 0 0) 1)]:=by rw [←y4,←y3];exact yW _ (bc y2).1
    obtain ⟨d,d1,d2,d3,d4,d5,d6,d7,d8⟩:=k.node ht hl hA;have hN:ab (q.a l) 178 (nC (q.u l) d.p d.rl.v d.rr.v d.sz)∈eZ N++[ab b 178 (nC x (some (q.a l)) (.slice none 0 0) (.slice none 0 0) 1)]:=by rw [←d4,←d3];exact yW _ (bc d2).1
    have gN:aF d.rr.S 176 1 d.rr.v d.rr.xs.length (d.rr.xs.map pA)∈fU q s ra rt fr at_ ord ro N [ab b 178 (nC x (some (q.a l)) (.slice none 0 0) (.slice none 0 0) 1)]:=by simp only [yH,yL];exact .inr (.inr (.inr (.inr (.inr (.inl (bc d2).2.2)))))
    have fI:d.rr.xs=fb.roots.map q.a:=d8;have hlen:d.rr.xs.length=fb.roots.length:=by rw [fI,uF]
    obtain ⟨g,c',iI,_,_,_⟩:=hS.dG gN J9;have jg:=hS.aW gN;rw [iI]at jg;have gi:(d.rr.xs.map pA)[j*1]?=some (pA (q.a y)):=by rw [uO,fI,uM,xM,hy];rfl
    refine go ?_;rw [iI];refine go ?_;refine RL.GX aa jg gi rfl rfl rfl rfl rfl rfl ?_;refine go ?_;have hw:IntKind.i64.wrap ((j:Int)+1)=((j+1:Nat):Int):=by rw [ag _ J9 J9];omega
    have jb:IntKind.i64.wrap (((q.place l+1+Fo.pre j fb:Nat):Int)+(dy.sz:Int))=((q.place l+1+Fo.pre (j+1) fb:Nat):Int):=by
     rw [ag _ J9 J9];omega
    rw [hw,jb];obtain ⟨S5,hS⟩:=a8 k hS;refine QN.round (j+1) YC ⟨J9,fun n y' xw s9=>?_,S5,hS⟩ J9;rcases tL (Nat.le_of_lt_succ xw)with rfl|xw
    ·rw [hy]at s9;cases s9;exact SB
    ·exact Bz n y' xw s9
 ·clear hS;rintro _ m ⟨rfl,S1,hS⟩;refine QN.bx ?_;obtain ⟨ra,rt,fr,at_,ord,ro,N,k,hS⟩:=bl hS;obtain ⟨d,d1,d2,d3,d4,d5,d6,d7,d8⟩:=k.node ht hl hA;have hS:=hS.perm (oe d1);have eA:d.A=ab (q.a l) 178 (nC (q.u l) d.p d.rl.v d.rr.v d.sz):=by rw [Nd.A,d3,d4]
  have hS:Tr m0 (au [a7 S s q,ab b 178 (nC x none (.slice none 0 0) (.slice none 0 0) 1)]) X m (ab (q.a l) 178 (nC (q.u l) d.p d.rl.v d.rr.v d.sz)::d.rl.A::aF d.rr.S 176 1 d.rr.v d.rr.xs.length (d.rr.xs.map pA)::fU q s ra rt fr at_ ord ro (N.eraseIdx l) [ab b 178 (nC x (some (q.a l)) (.slice none 0 0) (.slice none 0 0) 1)]):=by rw [←eA];exact hS
  have fI:d.rr.xs=fb.roots.map q.a:=d8;have NT:q.kR fb.roots x≤d.rr.xs.length:=by rw [fI,uF];exact Us.cW _ fb.roots
  have hlen:d.rr.xs.length=fb.roots.length:=by rw [fI,uF]
  refine go ?_;refine RL.aA aa hS [.tmp 65] [pA b] rfl rfl rfl rfl rfl rfl JO rfl rfl rfl ?_;clear hS;intro b' m hS;refine aa1 ?_;refine zD (qq d.rr.v (.slice (some ⟨b',0,none⟩) 1 1) d.rr.S [b'] d.rr.xs.length (q.kR fb.roots x) 1 (d.rr.xs.map pA) [pA b] NT J9 J9 (fun z hz=>by obtain ⟨_,_,rfl⟩:=vE.1 hz;rfl) (fun z hz=>by simp only [zT]at hz;subst hz;rfl)) ?_;clear hS;rintro v' m _ ⟨S',rfl⟩ hS;simp only [zC,zN]at hS;obtain ⟨A2,c2,rfl,_⟩:=hS.shape;refine ab4 ?_;refine aa4 ?_;intro m hS;refine go ?_;have eR:(Rw.mk S' (.slice A2 (d.rr.xs.length+1) c2) (aB (q.kR fb.roots x) b d.rr.xs)).A=aF S' 176 1 (.slice A2 (d.rr.xs.length+1) c2) (d.rr.xs.length+1) ((d.rr.xs.map pA).take (q.kR fb.roots x*1)++[pA b]++(d.rr.xs.map pA).drop (q.kR fb.roots x*1)):=by simp only [Rw.A,bO,iO];simp [aB]
  have eB:Nd.A {d with rr:=(Rw.mk S' (.slice A2 (d.rr.xs.length+1) c2) (aB (q.kR fb.roots x) b d.rr.xs))}=ab (q.a l) 178 (nC (q.u l) d.p d.rl.v (.slice A2 (d.rr.xs.length+1) c2) d.sz):=by simp only [Nd.A,d3,d4]
  have hS:Tr m0 (au [a7 S s q,ab b 178 (nC x none (.slice none 0 0) (.slice none 0 0) 1)]) X m (ab (q.a l) 178 (nC (q.u l) d.p d.rl.v (.slice A2 (d.rr.xs.length+1) c2) d.sz)::d.rl.A::(Rw.mk S' (.slice A2 (d.rr.xs.length+1) c2) (aB (q.kR fb.roots x) b d.rr.xs)).A::fU q s ra rt fr at_ ord ro (N.eraseIdx l) [ab b 178 (nC x (some (q.a l)) (.slice none 0 0) (.slice none 0 0) 1)]):=by rw [eR];exact hS.perm ((vU (l₁:=[_,_]) (l₂:=_)).symm)
  rw [←eB]at hS;exact QN.aj rfl rfl ⟨_,rfl,_,⟨rfl,ra,rt,fr,at_,ord,ro,N,d,(Rw.mk S' (.slice A2 (d.rr.xs.length+1) c2) (aB (q.kR fb.roots x) b d.rr.xs)),k,d1,rfl,rfl⟩,hS.perm (xq _ d1)⟩
theorem HJ(S:List Nat)(s b:Nat)(q:Sq)(x:Un)(ht:q.tr=true)(hq:q.Ok)(ep:q.us.length<1000000):bu Tryz.prog 262 [pA s,pA b,.pointer none] [a7 S s q,ab b 178 (nC x none (.slice none 0 0) (.slice none 0 0) 1)]
  (fun v H=>v=.int .i64 (0+Fo.pre (q.kR q.F.roots x) q.F:Nat)∧∃ra rt fr at_ ord ro N R,pJ q fr at_ ord ro N∧R.xs=aB (q.kR q.F.roots x) b ro.xs∧H=fU q s ra rt fr at_ ord R N [ab b 178 (nC x none (.slice none 0 0) (.slice none 0 0) 1)]):=by
 intro m0 X hS;refine aP.zA Tryz.func262 ?_;refine aj0 ?_;intro m hS;have hS:Tr m0 _ X m [a7 S s q,ab b 178 (nC x none (.slice none 0 0) (.slice none 0 0) 1)]:=hS;have OR:q.F.sz=q.us.length:=hq.fe;obtain ⟨S2,oN⟩:∃S2,S=S2:=⟨S,rfl⟩;refine go ?_;have iD:=kW q.F;refine (WP.eo (X:=Nat) (fun j=>[(0,pA s),(1,pA b),(2,.pointer none),(7,.pointer (some (Addr.add ⟨s,0,none⟩ 2))),(8,.int .i64 (0+Fo.pre j q.F:Nat)),(9,.int .i64 j)])
  (fun j m'=>j≤q.F.roots.length∧(∀n y,n<j→q.F.roots[n]?=some y→q.ahead (q.u y) x=true)∧∃S',Tr m0 (au [a7 S s q,ab b 178 (nC x none (.slice none 0 0) (.slice none 0 0) 1)]) X m' [a7 S' s q,ab b 178 (nC x none (.slice none 0 0) (.slice none 0 0) 1)])
  (fun j m'=>j=q.kR q.F.roots x∧∃S',Tr m0 (au [a7 S s q,ab b 178 (nC x none (.slice none 0 0) (.slice none 0 0) 1)]) X m' [a7 S' s q,ab b 178 (nC x none (.slice none 0 0) (.slice none 0 0) 1)]) (fun j=>q.F.roots.length-j) 0 0
  YC ⟨yI _,fun n y hn=>J9,_,hS⟩ ?_ ?_)
 ·clear hS;rintro j m ⟨hj,Bz,S1,hS⟩;dsimp only at hj Bz hS ⊢;obtain ⟨ra,rt,fr,at_,ord,ro,N,k,hS⟩:=bl hS;have gN:aF ro.S 176 1 ro.v ro.xs.length (ro.xs.map pA)∈fU q s ra rt fr at_ ord ro N [ab b 178 (nC x none (.slice none 0 0) (.slice none 0 0) 1)]:=.tail _ (.tail _ (.tail _ (.tail _ (.head _))));have fI:ro.xs=q.F.roots.map q.a:=k.r ht;have hlen:ro.xs.length=q.F.roots.length:=by rw [fI,uF]
  rcases tL hj with xy|xy
  ·obtain ⟨A,c,hv,hc⟩:=Rw.shape hS gN;refine go ?_;rw [hv];refine go ?_;have so:decide ((j:Int)<(ro.xs.length:Int))=false:=zV J9;rw [so];refine go ?_;obtain ⟨S3,hS⟩:=a8 k hS;refine WP.exit (QN.tx (QN.tx (QN.du j YC ⟨?_,S3,hS⟩)));exact (ye hj Bz fun y hy=>absurd (yV.1 hy).1 J9).symm
  ·obtain ⟨y,hy⟩:=zQ xy;obtain ⟨fl,fr',hn⟩:=Fo.nS _ _ _ hy;have MC:=(At.Du none false hn);have Be:=(k.ok.mem y).1 MC.mem.1;have sU:=Fo.nV _ _ _ _ _ hn;have N0:=Fo.kY (j+1) q.F;obtain ⟨g,c',iI,_,_,_⟩:=hS.dG gN J9;have jg:=hS.aW gN;rw [iI]at jg;have gi:(ro.xs.map pA)[j*1]?=some (pA (q.a y)):=by rw [uO,fI,uM,xM,hy];rfl
   have so:decide ((j:Int)<(ro.xs.length:Int))=true:=zW J9;refine go ?_;rw [iI];refine go ?_;rw [so];refine go ?_;rw [iI];refine go ?_;refine RL.GX aa jg gi rfl rfl rfl rfl rfl rfl ?_;refine go ?_;obtain ⟨S3,hS⟩:=a8 k hS;refine RL.dr (F:=[]) (fi:=[]) (ca:=[]) hS (CS S3 s q [ab b 178 (nC x none (.slice none 0 0) (.slice none 0 0) 1)] (q.a y) b (q.u y) x (.inl ⟨y,Be,rfl,rfl⟩) (.inr ⟨_,_,_,_,zS ..⟩)) rfl rfl rfl rfl (bk.self _) ?_;clear hS gN jg;rintro _ m _ ⟨rfl,S4,rfl⟩ hS;simp only [zC,zN]at hS;refine ⟨_,rfl,?_⟩;cases SB:q.ahead (q.u y) x with
   |false=>
    refine go ?_;refine WP.exit (QN.tx (QN.tx (QN.du j YC ⟨?_,S4,hS⟩)));exact (ye hj Bz fun y' s9=>by rw [hy]at s9;cases s9;exact SB).symm
   |true=>
    clear k;obtain ⟨ra,rt,fr,at_,ord,ro,N,k,hS⟩:=bl hS;obtain ⟨dy,y1,y2,y3,y4,y5,y6,y7,y8⟩:=k.node ht Be MC;have s3:ab (q.a y) 178 (nC (q.u y) dy.p dy.rl.v dy.rr.v dy.sz)∈eZ N++[ab b 178 (nC x none (.slice none 0 0) (.slice none 0 0) 1)]:=by rw [←y4,←y3];exact yW _ (bc y2).1
    have gN:aF ro.S 176 1 ro.v ro.xs.length (ro.xs.map pA)∈fU q s ra rt fr at_ ord ro N [ab b 178 (nC x none (.slice none 0 0) (.slice none 0 0) 1)]:=.tail _ (.tail _ (.tail _ (.tail _ (.head _))));have fI:ro.xs=q.F.roots.map q.a:=k.r ht;have hlen:ro.xs.length=q.F.roots.length:=by rw [fI,uF]
    obtain ⟨g,c',iI,_,_,_⟩:=hS.dG gN J9;have jg:=hS.aW gN;rw [iI]at jg;have gi:(ro.xs.map pA)[j*1]?=some (pA (q.a y)):=by rw [uO,fI,uM,xM,hy];rfl
    refine go ?_;rw [iI];refine go ?_;refine RL.GX aa jg gi rfl rfl rfl rfl rfl rfl ?_;refine go ?_;have hw:IntKind.i64.wrap ((j:Int)+1)=((j+1:Nat):Int):=by rw [ag _ J9 J9];omega
    have jb:IntKind.i64.wrap (((0+Fo.pre j q.F:Nat):Int)+(dy.sz:Int))=((0+Fo.pre (j+1) q.F:Nat):Int):=by
     rw [ag _ J9 J9];omega
    rw [hw,jb];obtain ⟨S5,hS⟩:=a8 k hS;refine QN.round (j+1) YC ⟨J9,fun n y' xw s9=>?_,S5,hS⟩ J9;rcases tL (Nat.le_of_lt_succ xw)with rfl|xw
    ·rw [hy]at s9;cases s9;exact SB
    ·exact Bz n y' xw s9
 ·clear hS;rintro _ m ⟨rfl,S1,hS⟩;refine QN.bx ?_;obtain ⟨ra,rt,fr,at_,ord,ro,N,k,hS⟩:=bl hS;have hS:Tr m0 (au [a7 S s q,ab b 178 (nC x none (.slice none 0 0) (.slice none 0 0) 1)]) X m (ab s 175 [.map (some ra),ord.v,ro.v,.map (some rt),.bool fr]::mapA ra iV q.fq::mapA rt iV at_::ord.A::aF ro.S 176 1 ro.v ro.xs.length (ro.xs.map pA)::(eZ N++[ab b 178 (nC x none (.slice none 0 0) (.slice none 0 0) 1)])):=hS;have fI:ro.xs=q.F.roots.map q.a:=k.r ht;have NT:q.kR q.F.roots x≤ro.xs.length:=by rw [fI,uF];exact Us.cW _ q.F.roots
  have hlen:ro.xs.length=q.F.roots.length:=by rw [fI,uF]
  refine go ?_;refine RL.aA aa hS [.tmp 65] [pA b] rfl rfl rfl rfl rfl rfl JO rfl rfl rfl ?_;clear hS;intro b' m hS;refine aa1 ?_;refine zD (qq ro.v (.slice (some ⟨b',0,none⟩) 1 1) ro.S [b'] ro.xs.length (q.kR q.F.roots x) 1 (ro.xs.map pA) [pA b] NT J9 J9 (fun z hz=>by obtain ⟨_,_,rfl⟩:=vE.1 hz;rfl) (fun z hz=>by simp only [zT]at hz;subst hz;rfl)) ?_;clear hS;rintro v' m _ ⟨S',rfl⟩ hS;simp only [zC,zN]at hS;obtain ⟨A2,c2,rfl,_⟩:=hS.shape;refine ab4 ?_;refine aa4 ?_;intro m hS;refine go ?_;have eR:(Rw.mk S' (.slice A2 (ro.xs.length+1) c2) (aB (q.kR q.F.roots x) b ro.xs)).A=aF S' 176 1 (.slice A2 (ro.xs.length+1) c2) (ro.xs.length+1) ((ro.xs.map pA).take (q.kR q.F.roots x*1)++[pA b]++(ro.xs.map pA).drop (q.kR q.F.roots x*1)):=by simp only [Rw.A,bO,iO];simp [aB]
  refine QN.aj rfl rfl ⟨_,rfl,_,⟨rfl,ra,rt,fr,at_,ord,ro,N,(Rw.mk S' (.slice A2 (ro.xs.length+1) c2) (aB (q.kR q.F.roots x) b ro.xs)),k,rfl,rfl⟩,?_⟩;show Tr m0 (au [a7 S s q,ab b 178 (nC x none (.slice none 0 0) (.slice none 0 0) 1)]) X m (_::_::_::_::(Rw.mk S' (.slice A2 (ro.xs.length+1) c2) (aB (q.kR q.F.roots x) b ro.xs)).A::_);rw [eR];exact hS.perm ((vU (l₁:=[_,_,_,_]) (l₂:=_)).symm)
end Go.Proofs.YtgpgladbdoimdaaGreatDoor
