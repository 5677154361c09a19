/- Texts that belong together. -/
import Derived.Test.YtgpgladbdoimdaaGreatDoorMLawMV35
import Derived.Test.YtgpgladbdoimdaaGreatDoorMLawMV36
import Derived.Laws.Runes
import Derived.Lib.RuneCount
namespace Go.Proofs.YtgpgladbdoimdaaGreatDoor
open Go.ChangeShapes Go.WideShapes Go.ChangeAt Go.RowKit Go.Ev Go.Ids Go.SeqP
set_option maxRecDepth 20000
set_option maxHeartbeats 12000000
theorem oq{m0 m m':World}{M0 X:List Nat}{H:List az}{r:Value}{l:List aG}(hS:Tr m0 M0 X m H)(h:∀M,(∀k∈M,k<m.heap.size)→Rs m' M r l)(hE:Ext m [] m'):Tr m0 M0 X m' (bW 3 r (l.flatMap rC)::H):=
 hS.new (B:=bW 3 r (l.flatMap rC)) hE (fun k hk=>by cases hk) (by simp [bW]) ⟨h _ fun k hk=>by
  rw [aS]at hk;rcases yL.1 hk with hk|hk
  ·rcases yL.1 hk with hk|hk
   ·cases hk
   ·exact hS.hold.lt k hk
  ·exact wH (hS.CX k hk) hS.ext.size,J9⟩
structure ZB(d bx:Nat)(es:List (Nat×Value))(W:List (aL×Value))(h:List aG)(H:List az)(c0:Value)(rk:Nat)(c2 c3:Value)(rw:Nat)(vh c6 c7 c8 c9 c10 c11:Value)(S4:List Nat):Prop where
 bx:ab bx 24 [pA d]∈H
 d:ab d 147 [c0,.map (some rk),c2,c3,.map (some rw),vh,c6,c7,c8,c9,c10,c11]∈H
 k:mapA rk nU es∈H
 w:mapA rw iV W∈H
 h:df S4 vh h∈H
 t:aw∈H
 n:∀c,∃n,eH es c=nU n
theorem L8(d:Nat)(es:List (Nat×Value))(L:List az)(c0:Value)(rk:Nat)(cs:List Value)(hd:ab d 147 (c0::.map (some rk)::cs)∈L)(hm:mapA rk nU es∈L)(i:aL)(n:Nat)(hn:eH es i.c=nU n):
  bu Tryz.prog 165 [pA d,iV i] L (fun r H=>r=.bool (decide (i.k≤n))∧H=L):=by
 intro m0 X hS;have hN:=hd;obtain ⟨M0,bR⟩:=zP (au L);rw [←bR]at hS ⊢;refine aP.zA Tryz.func165 ?_;refine go ?_;refine RL.bn hS rfl rfl rfl ?_;(try clear hS);intro b3 m hS;refine ⟨_,rfl,?_⟩;refine go ?_;refine RH.lookup (v:=nU n) (k:=i.c) (es:=es) aa ai.calm qG rfl J7 rfl rfl rfl rfl rfl rfl rfl (zO _ hm) hn rfl ?_;refine go ?_;have e:decide ((i.k:Int)≤(n:Int))=decide (i.k≤n):=by rw [uZ];simp
 rw [e];exact QN.aj rfl rfl ⟨_,rfl,_,⟨rfl,rfl⟩,hS.tail⟩
theorem Gp(d bx:Nat)(es:List (Nat×Value))(L:List az)(c0:Value)(rk:Nat)(cs:List Value)(hb:ab bx 24 [pA d]∈L)(hd:ab d 147 (c0::.map (some rk)::cs)∈L)(hm:mapA rk nU es∈L)(i:aL)(hn:∃n,eH es i.c=nU n∧i.k≤n):
  bu Tryz.prog 164 [iV i,pA bx] (aw::L) (fun r H=>r=.bool false∧H=L):=by
 intro m0 X hS;have hS:=hS.perm (xI (l₁:=[aw]) (l₂:=L));have hN:=hb;obtain ⟨n,h1,h2⟩:=hn;obtain ⟨M0,bR⟩:=zP (au (aw::L));rw [←bR]at hS ⊢;have hS:=hS.drop;refine aP.zA Tryz.func164 ?_;refine go ?_;refine RL.bn hS rfl rfl rfl ?_;(try clear hS);intro b2 m hS;refine ⟨_,rfl,?_⟩;refine go ?_;refine RL.dr (fi:=[]) (ca:=[]) hS (L8 d es (ab b2 30 (iC i)::L) c0 rk cs (zO _ hd) (zO _ hm) i n h1) rfl rfl rfl rfl (bk.self _) ?_;clear hS;rintro _ m _ ⟨rfl,rfl⟩ hS;simp only [vI,zW h2]at hS ⊢;refine ⟨_,rfl,?_⟩;refine go ?_;exact QN.aj rfl rfl ⟨_,rfl,_,⟨rfl,rfl⟩,hS.tail⟩
theorem Ll(d:Nat):bu Tryz.prog 126 [pA d] [] (fun v H=>∃bx,v=.func (.func 162) #[] #[pA bx]∧H=[ab bx 24 [pA d]]):=by
 intro m0 X hS;refine aP.zA Tryz.func126 ?_;refine aa5 ?_;intro b1 m hS;exact ah2
def Vd(d bx:Nat)(L pre:List a6)(H:List az):Prop:=∃es W h c0 rk c2 c3 rw vh c6 c7 c8 c9 c10 c11 S4,ZB d bx es W h H c0 rk c2 c3 rw vh c6 c7 c8 c9 c10 c11 S4∧(pre=[]→h=L.map oR)∧
 (∀o,L[pre.length]?=some o→W=[(o.id,oV o)]∧eH es o.id.c=nU (o.id.k-1)∧∀i∈o.cY,∃n,eH es i.c=nU n∧i.k≤n)∧(L.length≤pre.length→W=[])
theorem Cq(d bx:Nat):PS Tryz.prog 162 [pA bx] (fun o:a6=>[oV o]) (fun _ _=>False) (fun xs=>xs=[]) (Vd d bx []):=by
 intro l I Ix m0 m M0 X H h0 hS gn hy;obtain ⟨es,W,h,c0,rk,c2,c3,rw,vh,c6,c7,c8,c9,c10,c11,S4,hV,h1,_,_⟩:=gn [] H h0;have hh:=h1 rfl;subst hh;refine aP.zA Tryz.func162 ?_;have hN:=hV.bx;have s3:=hV.d;refine go ?_;refine zM (kv m vh [] (hS.aW hV.h) YA) ?_;rintro r m' ⟨hr,hE,U5⟩;have hS:=oq hS hr hE;obtain ⟨A,c,rfl,_⟩:=Rs.shape (hr [] (fun _ h=>by cases h));refine ⟨_,rfl,?_⟩;refine go ?_;refine (WP.loop (X:=Unit) (fun _=>[(12,.int .i64 0),(13,.int .i64 0)]) (fun _ m'=>Tr m0 M0 X m' H) (fun _=>0) () YC hS.tail ?_);clear hS hr hE;rintro _ m hS;refine go ?_;refine WP.exit ?_;refine YH ?_;exact QN.kg rfl ⟨_,rfl,.inl ⟨[],H,rfl,h0,hS⟩⟩
theorem B8(d bx:Nat)(o:a6)(g:Good o):PS Tryz.prog 162 [pA bx] (fun o:a6=>[oV o]) (fun pre x=>pre=[]∧x=o) (fun xs=>xs=[o]) (Vd d bx [o]):=by
 intro l I Ix m0 m M0 X H h0 hS gn hy;obtain ⟨es,W,h,c0,rk,c2,c3,rw,vh,c6,c7,c8,c9,c10,c11,S4,hV,h1,h2,_⟩:=gn [] H h0;have hh:=h1 rfl;subst hh;have hid:=g.id;simp only [aL.right,num,wR,vY]at hid;refine aP.zA Tryz.func162 ?_;have hN:=hV.bx;have s3:=hV.d;refine go ?_;refine zM (kv m vh [oR o] (hS.aW hV.h) YA) ?_;rintro r m' ⟨hr,hE,U5⟩;have hS:=oq hS hr hE;obtain ⟨A,c,rfl,_⟩:=Rs.shape (hr [] (fun _ h=>by cases h));obtain ⟨ad,rfl,_⟩:=Rs.cell (hr [] (fun _ h=>by cases h)) 0 YA;refine ⟨_,rfl,?_⟩;refine go ?_;refine (WP.loop (X:=Bool×List az) (fun z=>[(0,.func (.yield l) #[] #[]),(1,pA bx),(11,.slice (some ad) 1 c),(12,.int .i64 1),(13,.int .i64 (if z.1 then 1 else 0))])
  (fun z m'=>I (if z.1 then[o]else[]) z.2∧Tr m0 M0 X m' (bW 3 (.slice (some ad) 1 c) ([oR o].flatMap rC)::z.2)) (fun z=>if z.1 then 0 else 1) (false,H)
  YC ⟨h0,hS⟩ ?_)
 clear hS hr hE h0 hN s3 h2 hV h1;rintro ⟨b,H1⟩ m1 ⟨hI,hS⟩;cases b with
 |true=>
  dsimp only [yT]at hI hS ⊢;refine go ?_;refine WP.exit ?_;refine YH ?_;exact QN.kg rfl ⟨_,rfl,.inl ⟨[o],H1,rfl,hI,hS.tail⟩⟩
 |false=>
  simp only [wE,wC]at hI hS ⊢;have fQ:Sl m1 [] 3 (.slice (some ad) 1 c) ([oR o].flatMap rC):=Sl.less hS.head.1 (fun k hk=>by cases hk) J9;refine go ?_;refine RL.indexAddr (k:=0) aa rfl rfl rfl rfl rfl rfl rfl J9 rfl ?_;refine RL.o8 aa rC (fun _=>rfl) fQ (show[oR o][0]?=some (oR o) from rfl) rfl rfl rfl rfl rfl ?_;refine go ?_;refine RL.aU aa rfl hS rfl rfl ?_;(try clear hS);intro b4 m hS;refine ⟨_,rfl,?_⟩;refine go ?_;refine RL.er aa hS rfl rfl rfl rfl rfl YB YB JN YB ?_;(try clear hS);intro m hS;refine go ?_;have hS:Tr m0 M0 X _ (ab b4 167 (rC (oR o))::bW 3 (.slice (some ad) 1 c) ([oR o].flatMap rC)::H1):=hS;refine (WP.loop (X:=Bool×List az) (fun z=>[(0,.func (.yield l) #[] #[]),(1,pA bx),(4,pA b4),(11,.slice (some ad) 1 c),(12,.int .i64 1),(13,.int .i64 0)])
   (fun z m'=>I (if z.1 then[o]else[]) z.2∧Tr m0 M0 X m' (ab b4 167 (rC (oR o))::bW 3 (.slice (some ad) 1 c) ([oR o].flatMap rC)::z.2)) (fun z=>if z.1 then 0 else 1) (false,H1)
   YC ⟨hI,hS⟩ ?_)
  clear hS fQ hI;rintro ⟨b,H2⟩ m2 ⟨hI,hS⟩;cases b with
  |true=>
   dsimp only [yT]at hI hS ⊢;obtain ⟨es,W,h,c0,rk,c2,c3,rw,vh,c6,c7,c8,c9,c10,c11,S4,hV,_,_,h3⟩:=gn [o] H2 hI;have hW:=h3 (yP _);subst hW;obtain ⟨n,hn⟩:=hV.n o.id.c;have hN:=hV.bx;have s3:=hV.d;refine aR ?_;refine WP.bG (ab b4 167 (rC (oR o))::bW 3 (.slice (some ad) 1 c) ([oR o].flatMap rC)::H2) hS (an.self _) J7 ?_;refine aR ?_;refine RH.lookup (v:=nU n) (k:=o.id.c) (es:=es) aa ai.calm qG rfl J7 rfl rfl rfl rfl rfl rfl rfl (zO _ (zO _ hV.k)) hn rfl ?_;refine aR ?_;obtain ⟨z,hz⟩:∃z:Nat,IntKind.u64.wrap ((n:Int)+1)=(z:Int):=⟨(IntKind.u64.wrap ((n:Int)+1)).toNat,by rw [wrap_u64];omega⟩;rw [hz];refine RH.lookup (k:=(⟨o.id.c,z⟩:aL)) (es:=([]:List (aL×Value))) aa ai.calm ko rfl J7 rfl rfl rfl rfl rfl rfl rfl (zO _ (zO _ hV.w)) rfl rfl ?_;refine aR ?_;refine RH.one rfl J7 rfl ?_;refine RL.aU aa rfl hS rfl rfl ?_;(try clear hS);intro b5 m hS;refine ⟨_,rfl,?_⟩;refine RL.N1 (RH.aD hS (an.ay (fun a ha=>zO _ ha)) ?_);refine aR ?_;refine RH.one rfl J7 rfl ?_;refine RL.er aa hS rfl rfl rfl rfl rfl YB YB JN YB ?_;(try clear hS);intro m hS;refine RL.N1 (RH.aD hS (an.ay (fun a ha=>zO _ ha)) ?_);refine aR ?_;refine WP.exit ?_;refine YD ?_;refine go ?_;refine QN.round (true,H2) YC ⟨hI,hS.tail.tail⟩ Nat.zero_lt_one
  |false=>
   simp only [wE,wC]at hI hS ⊢;obtain ⟨es,W,h,c0,rk,c2,c3,rw,vh,c6,c7,c8,c9,c10,c11,S4,hV,_,h2,_⟩:=gn [] H2 hI;obtain ⟨hW,hk,qv⟩:=h2 o rfl;subst hW;have hN:=hV.bx;have s3:=hV.d;refine aR ?_;refine WP.bG (ab b4 167 (rC (oR o))::bW 3 (.slice (some ad) 1 c) ([oR o].flatMap rC)::H2) hS (an.self _) J7 ?_;refine aR ?_;refine RH.lookup (v:=nU (o.id.k-1)) (k:=o.id.c) (es:=es) aa ai.calm qG rfl J7 rfl rfl rfl rfl rfl rfl rfl (zO _ (zO _ hV.k)) hk rfl ?_;refine aR ?_;have hw:IntKind.u64.wrap (((o.id.k-1:Nat):Int)+1)=(o.id.k:Int):=by rw [aq _ J9 J9];omega
   rw [hw];refine RH.lookup (k:=o.id) (es:=[(o.id,oV o)]) (v:=.tuple #[oV o,.bool true]) aa ai.calm ko rfl J7 rfl rfl rfl rfl rfl rfl rfl (zO _ (zO _ hV.w)) (by simp [bj]) rfl ?_;refine aR ?_;refine ab2 ?_;refine ac3 ?_;(try clear hS);intro b5 m hS;refine aa1 ?_;refine RL.N1 (RH.aD hS (an.ay (fun a ha=>zO _ ha)) ?_);refine aR ?_;refine ab2 ?_;refine aa2 ?_;intro m hS;have hS:Tr m0 M0 X _ (ab b5 55 (oC o)::ab b4 167 (rC (oR o))::bW 3 (.slice (some ad) 1 c) ([oR o].flatMap rC)::H2):=hS;refine RL.N1 (RH.aD hS (an.ay (fun a ha=>zO _ ha)) ?_);refine aR ?_;refine zG (KZ o) ?_;clear hS;rintro v m _ ⟨S,rfl⟩ hS;refine ⟨_,rfl,?_⟩;refine aR ?_;have hS:=hS.perm (xI (l₁:=[_]) (l₂:=ab b5 55 (oC o)::ab b4 167 (rC (oR o))::bW 3 (.slice (some ad) 1 c) ([oR o].flatMap rC)::H2));have up:∀{A:az},A∈H2→A∈ab b5 55 (oC o)::ab b4 167 (rC (oR o))::bW 3 (.slice (some ad) 1 c) ([oR o].flatMap rC)::H2:=fun h=>zO _ (zO _ (zO _ h))
   refine RL.dr (fi:=[]) (ca:=[]) hS (pq S v o.cY _ 164 [pA bx] (fun _=>false) (wG (xD _ _) J1) (fun i hi=>Gp d bx es _ c0 rk _ (up hV.bx) (up hV.d) (up hV.k) i (qv i hi))) rfl rfl rfl rfl (.ro (yW _ (up hV.t)) rfl (bk.self _)) ?_;clear hS;rintro _ m _ ⟨rfl,rfl⟩ hS;have hS:=(Tr.drop hS).drop;have ha:(o.cY.any fun _=>false)=false:=by simp
   rw [ha];refine ac9 ?_;refine RL.yield rfl rfl rfl (hy [] o [ab b5 55 (oC o),ab b4 167 (rC (oR o)),bW 3 (.slice (some ad) 1 c) ([oR o].flatMap rC)] m H2 hI ⟨rfl,rfl⟩ hS) ?_ ?_ ?_
   ·rintro v m2 ⟨H3,oN,hr⟩;clear hS;have oN:Tr m0 M0 X m2 (ab b5 55 (oC o)::ab b4 167 (rC (oR o))::bW 3 (.slice (some ad) 1 c) ([oR o].flatMap rC)::H3):=oN;rcases hr with⟨he,sK⟩|⟨he,sK⟩<;>cases he
    ·refine aa1 ?_;have hS:=oN;refine go ?_;exact QN.round (true,H3) YC ⟨sK,hS.tail⟩ Nat.zero_lt_one
    ·refine aa1 ?_;have hS:=oN;refine go ?_;exact QN.GK rfl ⟨_,rfl,.inr ⟨_,H3,sK,oN.tail.tail.tail⟩⟩
   ·rintro ch m2 ⟨H2,_,⟨he,_⟩|⟨he,_⟩⟩<;>cases he
   ·rintro m2 ⟨H2,_,⟨he,_⟩|⟨he,_⟩⟩<;>cases he
structure Wr(d:Nat)(D:List aG)(H:List az)(c0 c1 c2 vd:Value)(cs:List Value)(S3:List Nat):Prop where
 d:ab d 147 (c0::c1::c2::vd::cs)∈H
 h:df S3 vd D∈H
theorem OC(d:Nat):bu Tryz.prog 72 [pA d] [] (fun v H=>∃b1,v=.func (.func 131) #[] #[pA b1]∧H=[ab b1 24 [pA d]]):=by
 intro m0 X hS;refine aP.zA Tryz.func72 ?_;refine aR ?_;refine ac8 ?_;(try clear hS);intro b1 m hS;refine ac9 ?_;exact ah2
def lW(us:List Un):List (Nat×Un):=us.zipIdx.map fun x=>(x.2,x.1)
theorem G4(us:List Un)(k:Nat):(lW us)[k]?=(us[k]?).map fun u=>(k,u):=by
 simp only [lW,xM,List.getElem?_zipIdx,zU];cases us[k]?<;>rfl
def im(D:List aG)(us:List Un):List (Nat×Un):=(lW us).filter fun x=>!hasB D x.2.id
theorem KP{D:List aG}{us:List Un}{x:Nat×Un}{n:Nat}(h:(lW us)[n]?=some x)(hx:hasB D x.2.id=false):(im D us)[(((lW us).take n).filter fun x=>!hasB D x.2.id).length]?=some x:=by
 have e:lW us=(lW us).take n++x::(lW us).drop (n+1):=by
  obtain ⟨aM,hg⟩:=yV.1 h
  conv=>lhs;rw [←yG n (lW us),tI aM,hg]
 unfold im;generalize hT:(lW us).take n=T at e ⊢;rw [e,xX,List.filter_cons];simp [hx]
structure YP(d b1:Nat)(D:List aG)(q:Sq)(H:List az)(c0 c1 c2 vd c4 c5:Value)(s:Nat)(cs:List Value)(S3:List Nat)(e0 e2 e3 e4:Value)(ord:Rw):Prop where
 b:ab b1 24 [pA d]∈H
 g:Wr d D H c0 c1 c2 vd (c4::c5::pA s::cs) S3
 s:ab s 175 [e0,ord.v,e2,e3,e4]∈H
 o:ord.A∈H
 ox:ord.xs=q.F.flat.map q.a
 n:∀i∈q.F.flat,∃p lv rv sz,ab (q.a i) 178 (nC (q.u i) p lv rv sz)∈H
theorem LC(d b1:Nat)(D:List aG)(q:Sq)(c0 c1 c2 vd c4 c5:Value)(s:Nat)(cs:List Value)(S3:List Nat)(e0 e2 e3 e4:Value)(ord:Rw)(hb:q.F.flat.length≤1000000)
  (hg:∀(L:List az) (id:aL),Wr d D L c0 c1 c2 vd (c4::c5::pA s::cs) S3→bu Tryz.prog 132 [pA d,iV id] L (fun r H=>r=.bool (hasB D id)∧H=L)):
  PS Tryz.prog 131 [pA b1] (fun x:Nat×Un=>[.int .i64 x.1,uV x.2]) (fun pre x=>(im D q.ax)[pre.length]?=some x) (fun xs=>xs.length=(im D q.ax).length) (fun _ H=>YP d b1 D q H c0 c1 c2 vd c4 c5 s cs S3 e0 e2 e3 e4 ord):=by
 intro l I Ix m0 m M0 X H h0 hS gn hy;have hV:=gn [] H h0;refine aP.zB Tryz.func131 ?_;have hN:=hV.b;have s3:=hV.g.d;refine aR ?_;refine RL.bn hS rfl rfl rfl ?_;(try clear hS);intro b2 m hS;refine ⟨_,rfl,?_⟩;refine aR ?_;refine zG (C9 s) ?_;clear hS;rintro _ m _ ⟨bx,rfl,rfl⟩ hS;simp only [zC,zN]at hS;refine ⟨_,rfl,?_⟩;refine aR ?_;refine WP.jt (β:=Nat) (fun x:Nat×Un=>[.int .i64 x.1,uV x.2]) rfl (wk q bx s e0 e2 e3 e4 ord hb) ⟨_,Tryz.func90,J7,J7⟩ hS
  (fun pre H=>pre=(lW q.ax).take pre.length∧∃H1,H=ab bx 105 [pA s]::ab b2 170 [.func (.yield l) #[] #[]]::H1∧I (pre.filter fun x=>!hasB D x.2.id) H1)
  (fun c _ H=>c=.ret∧∃pre H1,H=ab bx 105 [pA s]::ab b2 170 [.func (.yield l) #[] #[]]::H1∧Ix pre H1) ⟨rfl,H,rfl,h0⟩ ?_ _ (fun _=>rfl) (fun _=>rfl)
  (fun x b=>[(1,pA b1),(2,pA b2),(3,.int .i64 x.1),(4,pA b)]) (fun x b G=>G=[ab b 101 (uC x.2)]) ?_ ?_ ?_ ?_
 ·rintro pre H C ⟨_,H1,rfl,hI⟩;have hV:=gn _ H1 hI;have up:∀{A:az},A∈H1→A∈C::ab bx 105 [pA s]::ab b2 170 [.func (.yield l) #[] #[]]::H1:=fun h=>zO _ (zO _ (zO _ h))
  exact ⟨YA,up hV.s,up hV.o,hV.ox,fun i hi=>by
   obtain ⟨p,lv,rv,sz,h⟩:=hV.n i hi;exact ⟨p,lv,rv,sz,up h⟩⟩
 ·intro l C pre x G m1 H1 _ _ hS;refine ai5 ?_;intro b m hS;intro m hS;refine aR ?_;exact QN.qE b _ YC hS rfl
 ·rintro l2 C pre x b _ G m2 _ ⟨hp,H1,rfl,hI⟩ ⟨sN,mH⟩ rfl hS;have XO:(lW q.ax)[pre.length]?=some x:=by rw [G4,mH,←sN];rfl
  have Bb:pre++[x]=(lW q.ax).take (pre++[x]).length:=by
   rw [zY,uW,wB,XO,←hp];rfl
  have kd:(pre++[x]).filter (fun x=>!hasB D x.2.id)=pre.filter (fun x=>!hasB D x.2.id)++(if hasB D x.2.id then[]else[x]):=by
   rw [xX];cases hh:hasB D x.2.id<;>simp [hh]
  have hS:=hS.mK;simp only [zC,zN]at hS;have hV:=gn _ H1 hI;have hN:=yW G hV.b;refine aR ?_;have up:∀{A:az},A∈H1→A∈ab b 101 (uC x.2)::C::ab bx 105 [pA s]::ab b2 170 [.func (.yield l) #[] #[]]::(H1++G):=fun h=>zO _ (zO _ (zO _ (zO _ (yW _ h))))
  refine RL.dr (fi:=[]) (ca:=[]) hS (hg _ x.2.id ⟨up hV.g.d,up hV.g.h⟩) rfl rfl rfl rfl (bk.self _) ?_;clear hS;rintro _ m _ ⟨rfl,rfl⟩ hS;simp only [vI]at hS;refine ac9 ?_;cases hh:hasB D x.2.id with
  |true=>
   refine aR ?_;exact QN.fY (hS.tail.perm (xI (l₁:=C::ab bx 105 [pA s]::ab b2 170 [.func (.yield l) #[] #[]]::H1))) ⟨Bb,H1,rfl,by rw [kd,hh];simpa using hI⟩
  |false=>
   refine aR ?_;have h7:=KP XO hh;rw [←hp]at h7;refine RL.yield rfl rfl rfl (hy (pre.filter fun x=>!hasB D x.2.id) x ([ab b 101 (uC x.2),C,ab bx 105 [pA s],ab b2 170 [.func (.yield l) #[] #[]]]++G) m H1 hI h7 (hS.perm ((xI (l₁:=H1) (l₂:=G)).append_left [_,_,_,_]))) ?_ ?_ ?_
   ·rintro v m2 ⟨H3,oN,hr⟩;clear hS;have hS:=(show Tr m0 M0 X m2 (ab b 101 (uC x.2)::C::ab bx 105 [pA s]::ab b2 170 [.func (.yield l) #[] #[]]::(G++H3)) from oN).tail.perm (tM [C,ab bx 105 [pA s],ab b2 170 [.func (.yield l) #[] #[]]] G H3);rcases hr with⟨he,sK⟩|⟨he,sK⟩<;>cases he
    ·refine ac9 ?_;exact QN.fY hS ⟨Bb,H3,rfl,by rw [kd,hh];exact sK⟩
    ·refine ac9 ?_;exact QN.Ve hS ⟨rfl,_,H3,rfl,sK⟩
   ·rintro ch m2 ⟨H2,_,⟨he,_⟩|⟨he,_⟩⟩<;>cases he
   ·rintro m2 ⟨H2,_,⟨he,_⟩|⟨he,_⟩⟩<;>cases he
 ·rintro B r xs m' _ hl ⟨hp,H1,rfl,hI⟩ hS;refine QN.B1 (QN.jq (.inr rfl) hS (fun m' hS=>⟨bY.none rfl,_,rfl,.inl ⟨_,H1,?_,hI,hS.tail.tail⟩⟩));have hx:xs=lW q.ax:=by
   rw [hp,yD];rw [hl];simp [lW]
  rw [hx];rfl
 ·rintro B r c pre m' _ ⟨rfl,pre',H1,rfl,hI⟩ hS;refine go ?_;exact QN.jq (.inl rfl) hS (fun m' hS=>⟨bY.none rfl,_,rfl,.inr ⟨pre',H1,hI,hS.tail.tail⟩⟩)
theorem _root_.Go.Ev.RL.NX{P:Program}{T:Ty}{ops:Array Oper}{Q:Exit→Act→World→Prop}{rest:List Oper}{n:Nat}{e e':Env}{D:Fr}{m:World}{d:Option Tmp}{x:Operand}{t t2 ty:TypeId}{pos:String}{aft:Array Edge}{g:Option (Nat×Bool)}{rt:Row}{k kk:IntKind}{i:Int}
  (hT:T.Ok P)(dD:T.row t=some rt)(hk:rt.k=.int kk)(Ya:(T.row t2).map (·.k)=some .str)(hg:gd ops e ⟨d,.convert t t2 x,ty,pos,aft,g⟩=some true)(hx:e.ev x=some (.int k i))(hp:aQ n d (.string (Utf8.encode i)) e=some e')(h:RL P ops Q rest n e' D m):RL P ops Q (⟨d,.convert t t2 x,ty,pos,aft,g⟩::rest) n e D m:=by
 refine RL.value _ hg (fun a w hf hs=>?_) hp h;have u1:=(hT.row dD).k;rw [hk]at u1;have u1:P.underlying t=some (.int kk):=u1;have:=run_convert_int_string (P:=P) w t t2 k i (by rw [u1];rfl) (isStr hT Ya);simp [execOp,hf.ev hx,this]
def oU(o:a6):Un:=⟨o.id,o.l,o.r⟩
abbrev IS(d:Nat)(x:Dx):az:=ab d 147 [pA x.s,.map (some x.rk),x.vt,x.vd,.map (some x.rw),x.vh,pA x.sq,.map (some x.ru),x.vm,pA x.mm,x.vv,nU x.st]
abbrev WT(d:Nat)(x:Dx)(o:a6)(it b6 b2 b3:Nat)(S5:List Nat)(q':Sq)(p k:Nat)(E:List (aL×Value)):List az:=Ff it o.t p::ab b6 30 (iC ⟨o.id.c,k⟩)::ab b2 24 [pA d]::ab b3 55 (oC o)::aw::bC d {x with S5:=S5,q:=q',E:=E} []
theorem LJ(d:Nat)(x:Dx)(o:a6)(g:Good o)(hk:o.k=1)(ht:x.q.tr=true)(hq:x.q.Ok)(ep:x.q.us.length+o.n≤1000000):
  bu Tryz.prog 167 [pA d,oV o] (aw::bC d x []) (fun r H=>r=.bool (x.q.runs (oU o) o.n)∧∃S5 q' E,q'.toUs=x.q.run (oU o) o.n∧q'.tr=true∧H=bC d {x with S5:=S5,q:=q',E:=E} []):=by
 intro m0 X hS;obtain ⟨M0,bR⟩:=zP (au (aw::bC d x []));rw [←bR]at hS ⊢;dsimp only [bC]at hS;refine aP.zA Tryz.func167 ?_;refine go ?_;refine ag1 ?_;intro b2 m hS;refine ac8 ?_;(try clear hS);intro b3 m hS;refine ab4 ?_;refine ac3 ?_;(try clear hS);intro b5 m hS;refine ab4 ?_;refine aa2 ?_;intro m hS;refine go ?_;have hd:((o.k:Int)==1)=true:=by rw [hk];rfl
 rw [hd];refine aR ?_;refine WP.bG [ab b2 24 [pA d],ab b3 55 (oC o),ab b5 101 (uC (oU o)),aw,IS d x] hS JD J7 ?_;refine aR ?_;refine zK (qF o g) (fun m hS=>?_);refine aR ?_;refine zL (Mt x.S5 x.sq o.n x.q (oU o) ht hq ep) ?_;clear hS;rintro _ m _ ⟨rfl,S5,q',NO,Lk,rfl⟩ hS;simp only [zC,zN]at hS;refine af2 ?_;refine aR ?_;cases hr:x.q.runs (oU o) o.n with
 |false=>
  refine go ?_;refine QN.aj rfl rfl ⟨_,rfl,_,⟨rfl,S5,q',x.E,NO,Lk,rfl⟩,?_⟩;dsimp only [bC];exact (hS.aH JB).drop
 |true=>
  refine aR ?_;refine ac3 ?_;(try clear hS);intro b6 m hS;refine ac9 ?_;refine aa2 ?_;intro m hS;refine aR ?_;refine RL.yi aa hS rfl rfl rfl ?_;clear hS;intro it m hS;refine ac9 ?_;have hS:=(hS.aH (Pre:=WT d x o it b6 b2 b3 S5 q' 0 o.id.k x.E) JC).drop;refine (WP.loop (X:=Nat×Nat×List (aL×Value)) (fun z=>[(2,pA b2),(3,pA b3),(6,pA b6),(36,.pointer (some ⟨it,0,none⟩))])
   (fun z m'=>Tr m0 M0 X m' (WT d x o it b6 b2 b3 S5 q' z.1 z.2.1 z.2.2)) (fun z=>o.t.length-z.1) (0,o.id.k,x.E) YC hS ?_)
  clear hS;rintro ⟨p,k,E⟩ m hS;dsimp only at hS ⊢;dsimp only [WT,bC]at hS;refine YG ?_;rcases xA p o.t.length with aM|fW
  ·refine RL.C2 hS rfl rfl aM JN rfl ?_;clear hS;intro m hS;refine aR ?_;refine WP.bG [ab b2 24 [pA d],ab b6 30 (iC ⟨o.id.c,k⟩),IS d x] hS JD J7 ?_;refine aR ?_;refine ab2 ?_;refine RL.NX aa rfl rfl rfl rfl rfl rfl ?_;refine ae8 ?_;refine aR ?_;refine ab2 ?_;refine RL.mapUpdate (k:=(⟨o.id.c,k⟩:aL)) (es:=E) aa hS ko rfl rfl rfl rfl rfl rfl JQ JN rfl ?_;clear hS;intro m hS;refine ae8 ?_;refine aR ?_;obtain ⟨z,hz⟩:∃z:Nat,IntKind.u64.wrap ((k:Int)+1)=(z:Int):=⟨(IntKind.u64.wrap ((k:Int)+1)).toNat,by rw [wrap_u64];omega⟩;rw [hz];refine aa4 ?_;intro m hS;refine go ?_;have fh:=Lib.decode_width_pos (str o.t) p (by rw [bV];exact aM);refine QN.round (p+(Utf8.decode (str o.t) p).2,z,_) YC (hS.aH JC).drop J0
  ·refine RL.Dd hS rfl rfl fW JQ rfl ?_;refine go ?_;refine WP.exit ?_;refine YD ?_;refine go ?_;refine QN.aj rfl rfl ⟨_,rfl,_,⟨rfl,S5,q',E,NO,Lk,rfl⟩,?_⟩;exact hS.tail.tail.tail.tail.tail
end Go.Proofs.YtgpgladbdoimdaaGreatDoor
