/- Texts that belong together. -/
import Derived.Test.YtgpgladbdoimdaaGreatDoorMLawMV27
namespace Go.Proofs.YtgpgladbdoimdaaGreatDoor
open Go.ChangeShapes Go.WideShapes Go.ChangeAt Go.RowKit Go.Ev Go.Ids Go.SeqP
set_option maxRecDepth 20000
set_option maxHeartbeats 2000000
theorem Sq.E6{q:Sq}{y:Un}{bs:List Nat}{b:Nat}(hl:q.ad.length=q.us.length)(hn:(q.cG y bs.length).idx (Us.nx y bs.length).id=none):cI (q.more y bs).fq (Us.nx y bs.length).id (pA b)=(q.more y (bs++[b])).fq:=by
 have hlen:(q.cG y bs.length).us.length=(q.ad++bs).length:=by rw [Us.kZ,zY,hl]
 rw [iX]
 ·simp only [Sq.fq,Sq.more,zY,uW];show _=List.map _ ((((q.cG y bs.length).us++[Us.nx y bs.length])).zip _);rw [←wM,List.zip_append hlen];simp
 ·intro hh;simp only [Sq.fq,uM]at hh;obtain ⟨z,hz,e⟩:=vE.1 hh;exact Us.eP.1 hn (vE.2 ⟨z.1,(List.of_mem_zip hz).1,e⟩)
theorem DA{x:Un}(j:Nat):Us.nx (Us.nx x 1) j=Us.nx x (j+1):=by
 cases j with
 |zero=>rfl
 |succ j=>simp [Us.nx];omega
structure SS(q:Sq)(l more:Nat)(Nb M:List Nd)(bs:List Nat)(cur z:Nat)(d:Nd):Prop where
 le:bs.length≤more
 c:MJ q l (Us.nx (q.u l) 1) more bs Nb M
 hz:z=if bs=[]then l else Nb.length+bs.length-1
 hd:M[z]?=some d
 a:d.a=cur
 cur:cur=if bs=[]then q.a l else bs.getD (bs.length-1) 0
 u:d.u=Us.nx (q.u l) bs.length
theorem SS.step{q:Sq}{l more cur z b:Nat}{Nb M:List Nd}{bs:List Nat}{d:Nd}{R rn rn':Rw}(h:SS q l more Nb M bs cur z d)(hl:l<Nb.length)(aM:bs.length<more)(hR:R.xs=[b])(h1:rn.xs=[])(h2:rn'.xs=[]):
  SS q l more Nb (M.set z {d with rr:=R}++[⟨b,Us.nx (q.u l) (bs.length+1),some cur,more-bs.length,rn,rn'⟩]) (bs++[b]) b (Nb.length+bs.length) ⟨b,Us.nx (q.u l) (bs.length+1),some cur,more-bs.length,rn,rn'⟩where
 le:=by simp;omega
 c:=by
  have:=h.c.step hl h.hz h.hd (h.a.trans h.cur) hR h1 h2;rw [DA,h.a]at this;have e:({d with rr:=R}:Nd)={a:=cur,u:=d.u,p:=d.p,sz:=d.sz,rl:=d.rl,rr:=R}:=by rw [←h.a]
  rw [e];exact this
 hz:=by simp
 hd:=by
  have hlen:(M.set z {d with rr:=R}).length=Nb.length+bs.length:=by rw [vB,h.c.len]
  rw [vM J9,hlen,tG];rfl
 a:=rfl
 cur:=by simp [List.getD_eq_getElem?_getD]
 u:=by simp
theorem Lq(S:List Nat)(s l more:Nat)(q:Sq)(sd:Bool)(pp:Option Nat)(ht:q.tr=true)(hq:q.Ok)(hm:0<more)(hr:q.lu (Us.nx (q.u l) 1) more)(hl:q.idx (q.u l).id=some l)(hA:Fo.At q.F none false l pp sd .nil .nil)(sr:q.idx (q.u l).r≠some l)(ep:q.us.length+more≤1000000):
  bu Tryz.prog 230 [pA s,pA (q.a l),.int .i64 more] [a7 S s q] (fun _ H=>∃S' bs,bs.length=more∧H=[a7 S' s (q.more (Us.nx (q.u l) 1) bs)]):=by
 intro m0 X hS;obtain ⟨ra,rt,fr,at_,ord,ro,N,k,hS⟩:=bl hS;have pY:=(Us.ba hl).1;obtain ⟨d,d1,d2,d3,d4,d5,d6,d7,d8⟩:=k.node ht pY hA;have hN:ab (q.a l) 178 (nC (q.u l) d.p d.rl.v d.rr.v d.sz)∈eZ N++[]:=by rw [←d4,←d3];exact yW _ (bc d2).1
 refine aP.zA Tryz.func230 ?_;refine go ?_;clear hN;obtain ⟨S1,hS⟩:=a8 k hS;refine zD (ml S1 s q (q.u l).id) ?_;clear hS k d1 d2 d3 d4 d5 d6 d7 d8;rintro _ m _ ⟨rfl,S2,rfl⟩ hS;simp only [zC,zN]at hS;refine aa1 ?_;have hf:q.find (q.u l).id=q.place l:=by simp [Us.find,hl]
 have OR:=hq.lk pY;have WU:IntKind.i64.wrap ((q.place l:Int)+1)=((q.place l+1:Nat):Int):=by rw [ag _ J9 J9];omega
 rw [hf];refine go ?_;rw [WU];obtain ⟨ra,rt,fr,at_,ord,ro,N,k,hS⟩:=bl hS;have fI:ord.xs.length=q.us.length:=by rw [k.o,uF,hq.fe]
 have AF:N.length=q.us.length:=by rw [←k.l.us,uF]
 have iH:=k.K7;obtain ⟨M0,bR⟩:=zP (au [a7 S s q]);rw [←bR]at hS ⊢;refine (WP.eo (X:=Option Nat) (fun i=>[(0,pA s),(1,pA (q.a l)),(2,.int .i64 more),(6,.int .i64 (q.place l+1:Nat)),(7,pO (i.map q.a))])
  (fun i m'=>∃pre,Fo.path [] q.F l=pre++(match i with|none=>[]|some t=>Fo.path [] q.F t)∧(∀t,i=some t→t∈q.F.flat)∧Tr m0 M0 X m' (fU q s ra rt fr at_ ord ro (bump N pre more) []))
  (fun i m'=>i=none∧Tr m0 M0 X m' (fU q s ra rt fr at_ ord ro (bump N (Fo.path [] q.F l) more) []))
  (fun i=>match i with|none=>0|some t=>(Fo.path [] q.F t).length) (some l) 0 YC ⟨[],rfl,fun t e=>by cases e;exact hA.mem.1,by rw [Al];exact hS⟩ ?_ ?_)
 ·clear hS;rintro i m ⟨pre,po,hi,hS⟩;cases i with
  |none=>
   refine go ?_;refine WP.exit (QN.tx (QN.tx (QN.du none YC ⟨rfl,?_⟩)));rw [po,vI];exact hS
  |some t=>
   have bm:=hi t rfl;have po:Fo.path [] q.F l=pre++Fo.path [] q.F t:=po;have px:=(hq.mem t).1 bm;obtain ⟨pp,ss,fa,fb,hA⟩:=Fo.At.dV none false bm;obtain ⟨d,d1,d2,d3,d4,d5,d6,d7,d8⟩:=k.node ht px hA;obtain ⟨t',p1,p2,p3⟩:=hA.path (up:=[]) hq.nd YA;have Iw:(Fo.path [] q.F l).Nodup:=fm uP YA hq.nd;have SX:t∉pre:=fun hh=>by
    rw [po,p1]at Iw;exact (yN.1 Iw).2.2 t hh t (zS ..) rfl
   have B3:(bump N pre more)[t]?=some d:=by rw [di,d1];simp [SX]
   have jr:ab (q.a t) 178 (nC d.u d.p d.rl.v d.rr.v d.sz)∈eZ (bump N pre more)++[]:=by rw [←d3];exact yW _ (bc (xU B3)).1
   obtain ⟨OR,TB⟩:=hq.nR hA;have hw:IntKind.i64.wrap ((d.sz:Int)+(more:Int))=((d.sz+more:Nat):Int):=by rw [ag _ J9 J9];omega
   refine go ?_;rw [hw];refine RL.aO aa hS rfl rfl rfl rfl rfl rfl (GW B3 d3 more) rfl ?_;clear hS jr;intro m hS;rw [Aq (c:=more) d1 SX]at hS;have GQ:(bump N (pre++[t]) more)[t]?=some {d with sz:=d.sz+more}:=by rw [di,d1];simp
   have jr:ab (q.a t) 178 (nC d.u d.p d.rl.v d.rr.v (d.sz+more))∈eZ (bump N (pre++[t]) more)++[]:=by rw [←d3];exact yW _ (bc (xU GQ)).1
   refine go ?_;rw [d5];refine QN.round pp YC ⟨pre++[t],?_,?_,hS⟩ ?_
   ·rcases p3 with rfl|⟨q',rfl,p4,_⟩
    ·simp only [List.head?_nil]at p2;subst p2;rw [po,p1];simp
    ·rw [po,p1,←p4];simp
   ·rintro t2 rfl;rcases p3 with rfl|⟨q',h9,_,p5⟩
    ·cases p2
    ·cases h9;exact p5
   ·rcases p3 with rfl|⟨q',rfl,p4,_⟩
    ·simp only [List.head?_nil]at p2;subst p2;show 0<(Fo.path [] q.F t).length;rw [p1];simp
    ·show(Fo.path [] q.F q').length<(Fo.path [] q.F t).length;rw [p1,p4];simp
 ·clear hS;rintro _ m ⟨rfl,hS⟩;refine QN.bx ?_;obtain ⟨Nb,T4⟩:∃Nb,bump N (Fo.path [] q.F l) more=Nb:=⟨_,rfl⟩;rw [T4]at hS;have aaC:Nb.length=q.us.length:=by rw [←T4,iY,AF]
  obtain ⟨d,d1,d2,d3,d4,d5,d6,d7,d8⟩:=k.node ht pY hA;have B3:∃d0,Nb[l]?=some d0∧d0.a=q.a l∧d0.u=q.u l:=by
   rw [←T4,di,d1];simp only [uS]
   split
   ·exact ⟨_,rfl,d3,d4⟩
   ·exact ⟨_,rfl,d3,d4⟩
  obtain ⟨d0,e1,e2,e3⟩:=B3;refine go ?_;have hS:=hS.empty 176 1 none;have Ru:(q.more (Us.nx (q.u l) 1) []).fq=q.fq:=by simp [Sq.fq,Sq.more,Us.cG]
  refine (WP.eo (X:=List Nat×Nat×Value) (fun x=>[(0,pA s),(1,pA x.2.1),(6,.int .i64 (q.place l+1:Nat)),(8,x.2.2),(9,.int .i64 (more-x.1.length:Nat))])
   (fun x m'=>∃M z d S8,SS q l more Nb M x.1 x.2.1 z d∧Tr m0 M0 X m' (aF S8 176 1 x.2.2 x.1.length (x.1.map pA)::fU (q.more (Us.nx (q.u l) 1) x.1) s ra rt fr at_ ord ro M []))
   (fun x m'=>x.1.length=more∧∃M z d S8,SS q l more Nb M x.1 x.2.1 z d∧Tr m0 M0 X m' (aF S8 176 1 x.2.2 x.1.length (x.1.map pA)::fU (q.more (Us.nx (q.u l) 1) x.1) s ra rt fr at_ ord ro M []))
   (fun x=>more-x.1.length) ([],q.a l,.slice none 0 0) 2 YC ⟨Nb,l,d0,[],⟨yI _,MJ.start,rfl,e1,e2,rfl,e3⟩,by show Tr m0 M0 X m (aF [] 176 1 (.slice none 0 0) 0 []::fU (q.more (Us.nx (q.u l) 1) []) s ra rt fr at_ ord ro Nb []);unfold fU;rw [Ru];exact hS⟩ ?_ ?_)
  ·clear hS;rintro ⟨bs,cur,v8⟩ m ⟨M,z,d,S8,c,hS⟩;dsimp only at c hS ⊢;rcases tL c.le with xy|xy
   ·have so:decide (((more-bs.length:Nat):Int)>0)=false:=zV J9;refine go ?_;rw [so];refine go ?_;exact WP.exit (QN.tx (QN.tx (QN.du (bs,cur,v8) YC ⟨xy,M,z,d,S8,c,hS⟩)))
   ·have so:decide (((more-bs.length:Nat):Int)>0)=true:=zW J9;have B6:=hr.top;have sD:(Us.nx (q.u l) 1).id=⟨(q.u l).id.c,(q.u l).id.k+1⟩:=by simp [Us.nx]
    rw [sD]at B6;simp only at B6;have hid:d.u.id=⟨(q.u l).id.c,(q.u l).id.k+bs.length⟩:=by rw [c.u,Us.lq]
    have YM:d.u.r=(q.u l).r:=by rw [c.u];unfold Us.nx;split<;>rfl
    have hw:IntKind.u64.wrap ((((q.u l).id.k+bs.length:Nat):Int)+1)=(((q.u l).id.k+(bs.length+1):Nat):Int):=by rw [aq _ J9 J9];omega
    have hN:ab cur 178 (nC d.u d.p d.rl.v d.rr.v d.sz)∈eZ M++[]:=by rw [←c.a];exact yW _ (bc (xU c.hd)).1
    refine go ?_;rw [so];refine go ?_;refine ab2 ?_;refine ac8 ?_;clear hS hN;intro b m hS;refine aa1 ?_;refine RL.N1 (RH.aD hS (.more _ (an.self _)) ?_);have eb:[Value.int .u64 d.u.id.c,.int .u64 (IntKind.u64.wrap ((d.u.id.k:Int)+1)),.int .u64 d.u.id.c,.int .u64 d.u.id.k,.int .u64 d.u.r.c,.int .u64 d.u.r.k,pA cur,.slice none 0 0,.slice none 0 0,.int .i64 (more-bs.length:Nat)]=nC (Us.nx (q.u l) (bs.length+1)) (some cur) (.slice none 0 0) (.slice none 0 0) (more-bs.length):=by
     rw [hid,YM];simp only [hw];simp only [nC,Us.nx,zX (Nat.succ_ne_zero _)];rfl
    have hS:Tr m0 M0 X m (ab b 178 (nC (Us.nx (q.u l) (bs.length+1)) (some cur) (.slice none 0 0) (.slice none 0 0) (more-bs.length))::aF S8 176 1 v8 bs.length (bs.map pA)::fU (q.more (Us.nx (q.u l) 1) bs) s ra rt fr at_ ord ro M []):=by rw [←eb];exact hS
    refine go ?_;refine RL.aA aa hS [.tmp 69] [pA b] rfl rfl rfl rfl rfl rfl JO rfl rfl rfl ?_;clear hS;intro b' m hS;refine aa1 ?_;have eA:d.A=ab cur 178 (nC d.u d.p d.rl.v d.rr.v d.sz):=by rw [Nd.A,c.a]
    have hS:Tr m0 M0 X m ([aF [b'] 176 1 (.slice (some ⟨b',0,none⟩) 1 1) 1 [pA b],ab b 178 (nC (Us.nx (q.u l) (bs.length+1)) (some cur) (.slice none 0 0) (.slice none 0 0) (more-bs.length)),aF S8 176 1 v8 bs.length (bs.map pA)]++(ab cur 178 (nC d.u d.p d.rl.v d.rr.v d.sz)::d.rl.A::d.rr.A::fU (q.more (Us.nx (q.u l) 1) bs) s ra rt fr at_ ord ro (M.eraseIdx z) [])):=by rw [←eA];exact hS.perm ((oe c.hd).append_left [_,_,_])
    simp only [zC,zN]at hS;refine aj0 ?_;intro m hS;have hS:=hS.aH (Pre:=[d.rr.A,aF S8 176 1 v8 bs.length (bs.map pA),ab b 178 (nC (Us.nx (q.u l) (bs.length+1)) (some cur) (.slice none 0 0) (.slice none 0 0) (more-bs.length)),ab cur 178 (nC d.u d.p d.rl.v (.slice (some ⟨b',0,none⟩) 1 1) d.sz),d.rl.A,aF [b'] 176 1 (.slice (some ⟨b',0,none⟩) 1 1) 1 [pA b]]) (F:=fU (q.more (Us.nx (q.u l) 1) bs) s ra rt fr at_ ord ro (M.eraseIdx z) []) JC;have hS:=hS.tail;have eA':Nd.A {d with rr:=⟨[b'],.slice (some ⟨b',0,none⟩) 1 1,[b]⟩}=ab cur 178 (nC d.u d.p d.rl.v (.slice (some ⟨b',0,none⟩) 1 1) d.sz):=by simp only [Nd.A,c.a]
    obtain ⟨R,hR⟩:=zP (⟨[b'],.slice (some ⟨b',0,none⟩) 1 1,[b]⟩:Rw);have hS:Tr m0 M0 X m (aF S8 176 1 v8 bs.length (bs.map pA)::ab b 178 (nC (Us.nx (q.u l) (bs.length+1)) (some cur) (.slice none 0 0) (.slice none 0 0) (more-bs.length))::fU (q.more (Us.nx (q.u l) 1) bs) s ra rt fr at_ ord ro (M.set z {d with rr:=R}) []):=by
     refine Tr.perm ?_ ((xq {d with rr:=R} c.hd).append_left [_,_]);rw [hR,eA'];exact hS
    have bo:=c.step (b:=b) (R:=R) (rn:=⟨[],.slice none 0 0,[]⟩) (rn':=⟨[],.slice none 0 0,[]⟩) J9 xy (by rw [hR]) rfl rfl;have ks:(q.cG (Us.nx (q.u l) 1) bs.length).idx (Us.nx (Us.nx (q.u l) 1) bs.length).id=none:=Us.jz hr.new xy;have Ml:=Sq.E6 (b:=b) iH ks;rw [DA]at Ml;refine go ?_;refine RH.fD (k:=(Us.nx (q.u l) (bs.length+1)).id) (v:=pA b) aa hS ko rfl J7 rfl rfl rfl rfl rfl rfl rfl JQ JN rfl J7 ?_;clear hS;intro m hS;rw [Ml]at hS;refine QN.calm ?_;refine YJ ?_;refine go ?_;refine RL.dh aa hS [.tmp 84] [pA b] rfl rfl rfl rfl rfl rfl rfl rfl rfl rfl .head Jz (by simp [pA,Value.oneCell']) Jy (by show(_+_)*8≤_;omega) ?_;clear hS;intro _ v8' m S8' hS;refine ⟨_,rfl,?_⟩;refine go ?_;have hS:Tr m0 M0 X m (aF S8' 176 1 v8' (bs++[b]).length ((bs++[b]).map pA)::ab b 178 (nC (Us.nx (q.u l) (bs.length+1)) (some cur) (.slice none 0 0) (.slice none 0 0) (more-bs.length))::fU (q.more (Us.nx (q.u l) 1) (bs++[b])) s ra rt fr at_ ord ro (M.set z {d with rr:=R}) []):=by
     rw [zY,uJ];exact hS
    have hw9:IntKind.i64.wrap (((more-bs.length:Nat):Int)-1)=((more-(bs++[b]).length:Nat):Int):=by rw [ag _ J9 J9,zY,uW];omega
    rw [hw9];refine QN.round (bs++[b],b,v8') YC ⟨_,_,_,S8',bo,?_⟩ J6;have hS:=((hS.empty 176 1 none).empty 176 1 none).aH (Pre:=[aF S8' 176 1 v8' (bs++[b]).length ((bs++[b]).map pA),ab b 178 (nC (Us.nx (q.u l) (bs.length+1)) (some cur) (.slice none 0 0) (.slice none 0 0) (more-bs.length)),aF [] 176 1 (.slice none 0 0) 0 [],aF [] 176 1 (.slice none 0 0) 0 []]) (F:=fU (q.more (Us.nx (q.u l) 1) (bs++[b])) s ra rt fr at_ ord ro (M.set z {d with rr:=R}) []) (.own (.tail (.tail .head)) (.own (.tail (.tail .head)) (.own .head (.own .head .nil))));have hS:=hS.perm (((xI (l₁:=[_,_,_]) (l₂:=fU (q.more (Us.nx (q.u l) 1) (bs++[b])) s ra rt fr at_ ord ro (M.set z {d with rr:=R}) [])).cons _));have e2:(eZ (M.set z {d with rr:=R})++[])++[ab b 178 (nC (Us.nx (q.u l) (bs.length+1)) (some cur) (.slice none 0 0) (.slice none 0 0) (more-bs.length)),aF [] 176 1 (.slice none 0 0) 0 [],aF [] 176 1 (.slice none 0 0) 0 []]=eZ (M.set z {d with rr:=R}++[⟨b,Us.nx (q.u l) (bs.length+1),some cur,more-bs.length,⟨[],.slice none 0 0,[]⟩,⟨[],.slice none 0 0,[]⟩⟩])++[]:=by
     simp [eZ,Nd.A,Rw.A]
    simp only [yB,e2]at hS;exact hS
  ·clear hS;rintro ⟨bs,cur,v8⟩ m ⟨hlen,M,z,d,S8,c,hS⟩;dsimp only at hlen c hS ⊢;subst hlen;refine QN.bx ?_;have hS:Tr m0 M0 X m (aF S8 176 1 v8 bs.length (bs.map pA)::ab s 175 [.map (some ra),ord.v,ro.v,.map (some rt),.bool fr]::mapA ra iV (q.more (Us.nx (q.u l) 1) bs).fq::mapA rt iV at_::aF ord.S 176 1 ord.v ord.xs.length (ord.xs.map pA)::ro.A::(eZ M++[])):=hS;refine go ?_;refine zD (qq ord.v v8 ord.S S8 ord.xs.length (q.place l+1) bs.length (ord.xs.map pA) (bs.map pA) J9 J9 J9 (fun z hz=>by obtain ⟨_,_,rfl⟩:=vE.1 hz;rfl) (fun z hz=>by obtain ⟨_,_,rfl⟩:=vE.1 hz;rfl)) ?_;clear hS;rintro v' m _ ⟨S',rfl⟩ hS;simp only [zC,zN]at hS;obtain ⟨A2,c2,rfl,_⟩:=hS.shape;refine ⟨_,rfl,?_⟩;refine go ?_;refine RL.aO aa hS rfl rfl rfl rfl YB YB JN YB ?_;(try clear hS);intro m hS;refine go ?_;refine RL.aO aa hS rfl rfl rfl rfl YB YB JN YB ?_;(try clear hS);intro m hS;refine go ?_;have QV:(ord.xs.take (q.place l+1)++(bs++ord.xs.drop (q.place l+1))).length=ord.xs.length+bs.length:=by simp only [zY,yA,zZ];omega
   have eR:(Rw.mk S' (.slice A2 (ord.xs.length+bs.length) c2) (ord.xs.take (q.place l+1)++(bs++ord.xs.drop (q.place l+1)))).A=aF S' 176 1 (.slice A2 (ord.xs.length+bs.length) c2) (ord.xs.length+bs.length) ((ord.xs.map pA).take ((q.place l+1)*1)++bs.map pA++(ord.xs.map pA).drop ((q.place l+1)*1)):=by
    simp only [Rw.A,QV,uO,uJ,List.map_take,List.map_drop,wM]
   have Vj:q.idx (Us.nx (q.u l) 1).r≠some l:=sr;have hk:=k.chain (ord1:=Rw.mk S' (.slice A2 (ord.xs.length+bs.length) c2) (ord.xs.take (q.place l+1)++(bs++ord.xs.drop (q.place l+1)))) (at_:=at_) ht ep hr hl hA Vj (by rw [T4];exact c.c) rfl;have hS:Tr m0 M0 X m (fU (q.more (Us.nx (q.u l) 1) bs) s ra rt false at_ (Rw.mk S' (.slice A2 (ord.xs.length+bs.length) c2) (ord.xs.take (q.place l+1)++(bs++ord.xs.drop (q.place l+1)))) ro M []):=by
    rw [←eR]at hS;exact hS.aH (Pre:=[_,_,_,_]) JC
   obtain ⟨S9,hS⟩:=a8 hk hS;subst bR;exact QN.kg rfl ⟨_,rfl,_,⟨S9,bs,rfl,rfl⟩,hS⟩
end Go.Proofs.YtgpgladbdoimdaaGreatDoor
