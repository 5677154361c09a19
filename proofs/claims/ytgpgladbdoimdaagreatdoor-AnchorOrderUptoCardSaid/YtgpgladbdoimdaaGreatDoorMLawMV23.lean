/- Texts that belong together. -/
import Derived.Test.YtgpgladbdoimdaaGreatDoorMLawMV20
namespace Go.Proofs.YtgpgladbdoimdaaGreatDoor
open Go.ChangeShapes Go.WideShapes Go.ChangeAt Go.RowKit Go.Ev Go.Ids Go.SeqP
set_option maxRecDepth 20000
set_option maxHeartbeats 2000000
def DF:Nat→Code→Code
 |0,c=>c
 |n+1,.seq _ y=>DF n y
 |_,c=>c
def VX(s:Nat)(q:Us)(L:List az):Prop:=∃N v vm vo,L=pc s N v vm vo q.F.roots q.F.flat []∧dY q (N.map (·.d))∧q.Ok∧q.us.length≤1000000
abbrev cQ(s:Nat)(q:Us):az:=vz [s] (VX s q)
theorem iP{m0 m:World}{M0 X:List Nat}{F:List az}{s:Nat}{q:Us}(h:Tr m0 M0 X m (cQ s q::F)):∃N v vm vo,dY q (N.map (·.d))∧q.Ok∧q.us.length≤1000000∧Tr m0 M0 X m (pc s N v vm vo q.F.roots q.F.flat F):=by
 obtain ⟨L,⟨N,v,vm,vo,rfl,h1,h2,h3⟩,hS⟩:=h.open;exact ⟨N,v,vm,vo,h1,h2,h3,hS⟩
theorem eJ{m0 m:World}{M0 X:List Nat}{F:List az}{s:Nat}{q:Us}{N:List RM}{v vm vo:Value}(h1:dY q (N.map (·.d)))(h2:q.Ok)(h3:q.us.length≤1000000)(h:Tr m0 M0 X m (pc s N v vm vo q.F.roots q.F.flat F)):Tr m0 M0 X m (cQ s q::F):=
 Tr.close (L:=pc s N v vm vo q.F.roots q.F.flat []) h ⟨N,v,vm,vo,rfl,h1,h2,h3⟩
def r6(q:Us)(x:Un):Int:=match q.bA x with
 |some r=>r
 |none=>oI (q.idx x.l)
abbrev Hy(s b3 b8 g c:Nat)(x:Un)(y:RM)(N:List RM)(n:Nat)(K:List (Value×List Value))(vm vo:Value)(q:Us):List az:=
 aF [g] 164 10 (.slice (some ⟨g,0,none⟩) n c) n (N.flatMap fV)::ab s 162 [.slice (some ⟨g,0,none⟩) n c,vm,vo]::ab b8 164 (fV y)::ab b3 101 (uC x)::ey 1 K::jR vm q.F.roots::jR vo q.F.flat::[]
abbrev LN(s g c:Nat)(N:List RM)(n:Nat)(vm vo:Value)(R:List Nat)(q:Us):List az:=
 aF [g] 164 10 (.slice (some ⟨g,0,none⟩) n c) n (N.flatMap fV)::ab s 162 [.slice (some ⟨g,0,none⟩) n c,vm,vo]::ey 1 (gu N)::jR vm R::jR vo q.F.flat::[]
theorem Bk{q:Us}{x:Un}{r:Nat}(h:q.bA x=some r):q.idx x.r=some r:=by
 unfold Us.bA at h
 split at h
 ·cases h
 ·rename_i r' h1
  split at h
  ·cases h;exact h1
  ·split at h
   ·cases h;exact h1
   ·cases h
theorem yn{N:List RM}{r:Nat}{rr' y:RM}:∀p∈gu ((N++[y]).set r rr'),p∈gu N∨p=(rr'.vl,rr'.d.A.flatMap jC)∨p=(rr'.vm,rr'.d.B.flatMap jC)∨p=(y.vl,y.d.A.flatMap jC)∨p=(y.vm,y.d.B.flatMap jC):=by
 intro p hp;obtain ⟨z,hz,h2⟩:=vS.1 hp;clear hp;simp only [yH,uT,uU]at h2;rcases List.mem_or_eq_of_mem_set hz with hz|rfl
 ·rcases yL.1 hz with hz|hz
  ·exact .inl (vS.2 ⟨z,hz,by simpa using h2⟩)
  ·rw [zT]at hz;subst hz;rcases h2 with hp|hp
   ·exact .inr (.inr (.inr (.inl hp)))
   ·exact .inr (.inr (.inr (.inr hp)))
 ·rcases h2 with hp|hp
  ·exact .inr (.inl hp)
  ·exact .inr (.inr (.inl hp))
theorem AS{q:Us}(k:q.Ok){i:Nat}(hi:i<q.us.length):(db q.F i).1.roots.length≤q.us.length∧(∀j∈(db q.F i).1.roots,j<q.us.length)∧(db q.F i).2.roots.length≤q.us.length∧∀j∈(db q.F i).2.roots,j<q.us.length:=by
 obtain ⟨p,s,a,b,hA⟩:=Fo.At.dV none false ((k.mem i).2 hi);rw [At.db hA k.nd];obtain ⟨u,v,e,_⟩:=hA.split k.nd;have h1:=gQ a;have h2:=gQ b;have h3:=xZ List.length e;rw [k.fe]at h3;simp only [zY,yF]at h3;exact ⟨J0,fun j hj=>(k.mem j).1 (hA.mem.2.1 j (Fo.bT _ j hj)),J0,fun j hj=>(k.mem j).1 (hA.mem.2.2 j (Fo.bT _ j hj))⟩
theorem wa{s g c n:Nat}{N N':List RM}{vm vo w:Value}{l R:List Nat}{q:Us}{F:List az}{m0 m:World}{M0 X:List Nat}
  (hS:Tr m0 M0 X m (jR w l::aF [g] 164 10 (.slice (some ⟨g,0,none⟩) n c) n (N'.flatMap fV)::ab s 162 [.slice (some ⟨g,0,none⟩) n c,vm,vo]::jR vm R::jR vo q.F.flat::ey 1 (gu N)::F))
  (hk:∀p∈gu N',p∈gu N∨p=(w,l.flatMap jC)∨p=(.slice none 0 0,[])):Tr m0 M0 X m (LN s g c N' n vm vo R q):=by
 have hS:=(hS.gV 1 J8).s8 (sz:=1) (ps:=gu N) (qs:=gu N') J8 fun p hp=>by
  rcases hk p hp with h|rfl|rfl
  ·exact .inr ⟨h,YA⟩
  ·exact .inl YA
  ·exact .inl YA
 exact (hS.aH (Pre:=LN s g c N' n vm vo R q) JC).drop
theorem Kz{s:Nat}{q:Us}{x:Un}{m0 m:World}{M0 X:List Nat}{N:List RM}{v vm vo:Value}{b3 b8:Nat}(cH:dY q (N.map (·.d)))(cP:q.Ok)(ep:q.us.length<1000000)(oz:q.may x=true)
  (hS:Tr m0 M0 X m (ab b8 164 (yz x (r6 q x) (q.bA x).isSome)::ab b3 101 (uC x)::pc s N v vm vo q.F.roots q.F.flat [])):
  WP Tryz.prog (DF 7 (Tryz.f150.body.getD .skip)) (mb Tryz.prog Tryz.f150 fun ed m'=>∃v,ed=.returned v∧∃H',(v=.bool true∧H'=[cQ s (q.put x)])∧Tr m0 M0 X m' H') Tryz.f150.ntmps
   [(0,pA s),(3,pA b3),(6,.int .i64 (oI (q.idx x.l))),(7,.int .i64 (oI (q.idx x.r))),(8,pA b8)] ⟨[],none⟩ m:=by
 have AF:N.length=q.us.length:=by rw [←cH.len,uF]
 have kd:q.F.flat.length=q.us.length:=cP.fe;have hid:q.idx x.id=none:=by simp only [Us.may,wR,uK]at oz;exact oz.1.1.1.2
 have hr:x.id.right=true:=by simp only [Us.may,wR]at oz;exact oz.1.1.1.1
 obtain ⟨A,c,hv,jW,_,hA⟩:=Sl.gY fV bD ((Ba s N v vm vo q.F.roots q.F.flat []).l.cons.cons.at_ hS) J8;obtain ⟨y,hy⟩:=zP (⟨⟨x,(match q.bA x with|some r=>some r|none=>q.idx x.l),(q.bA x).isSome,[],[]⟩,.slice none 0 0,.slice none 0 0⟩:RM);have Yu:yz x (r6 q x) (q.bA x).isSome=fV y:=by
  rw [hy,r6,fV];cases q.bA x with
  |some r=>rfl
  |none=>cases q.idx x.l<;>rfl
 have hlen:∀L:List RM,(L.flatMap fV).length=L.length*10:=fun L=>by
  induction L with
  |nil=>rfl
  |cons a L ih=>rw [vH,zY,ih,bD,yF,xQ];omega
 have IP:y.d.u=x:=by rw [hy]
 rw [Yu]at hS;subst hv
 conv in(DF _ _)=>dsimp only [DF,Tryz.f150,Option.getD]
 refine ah ?_;refine ad8 ?_;refine RH.nP aa ai.calm 7 (lo:=N.length) (q:=N.length) rfl J7 rfl rfl rfl rfl rfl rfl rfl (yP _) jW rfl ?_;refine aZ ?_;refine ab2 ?_;refine RL.aA aa hS [.tmp 121] (us:=[.agg (fV y).toArray]) (fV y) rfl rfl rfl rfl rfl rfl JO rfl rfl rfl ?_;clear hS;intro b9 m hS;refine aa1 ?_;refine ac7 ?_;refine ab2 ?_;have pL:=((Ba s N (.slice A N.length c) vm vo q.F.roots q.F.flat []).l.cons.cons.cons.at_ hS).upto (l:=N.length) (k:=N.length) (yP _) (yP _) jW;rw [yD (by rw [hlen N];omega)]at pL;have h9:Sl m [] 10 (.slice (some ⟨b9,0,none⟩) 1 1) (fV y):=hS.aW (zS ..);refine RL.lg aa hS (fV y) (k:=1) pL rfl rfl rfl rfl rfl rfl (Src.cS h9) rfl Jy (by show(_+1)*112≤_;omega) ?_;clear hS pL h9;intro v10 m S10 hS;rw [show N.flatMap fV++fV y=(N++[y]).flatMap fV by simp]at hS;obtain ⟨g,c10,rfl,rfl,hgc,hgm⟩:=hS.dG (show aF S10 164 10 v10 (N.length+1) ((N++[y]).flatMap fV)∈_ from zS ..) J9;refine ⟨_,rfl,?_⟩;refine RL.N1 (RH.aD hS (an.ay fun _ h=>zO _ (zO _ h)) ?_);refine aZ ?_
 (try clear hS);intro m hS
 refine RL.N1 (RF.last J7 (QN.calm (QN.N1 ?_)));have hS:=(hS.aH (Pre:=Hy s b3 b8 g c10 x y (N++[y]) (N.length+1) (gu N) vm vo q) JC).drop;refine WP.cut (X:=List RM×Value) (fun _=>[(0,pA s)]) (fun z m'=>dY (q.put x) (z.1.map (·.d))∧Tr m0 M0 X m' (LN s g c10 z.1 (N.length+1) z.2 vo (q.put x).F.roots q)) ?_ ?_
 ·have MB:y.d.s=(q.bA x).isSome:=by rw [hy]
  refine ah ?_;cases gF:q.bA x with
  |some r=>
   rw [gF]at MB;have MB:y.d.s=true:=MB;have sj:=Bk gF;have iD:=(Us.ba sj).1;obtain ⟨rr,sr,T9,Ub,Tw,_⟩:=nodeAt cH cP iD;obtain ⟨k1,k2⟩:=qt sr;rw [sj,MB];refine ah ?_;have PR:(N++[y])[r]?=some rr:=by rw [vJ J9,sr]
   refine RL.kh aa fV bD (hS.aW JQ) PR 8 rfl rfl rfl Jm rfl rfl rfl ?_;refine ah ?_;have hS:=hS.mf JQ k1;have zp:q.kL rr.d.A x.id≤rr.d.A.length:=Us.cW _ _;obtain ⟨Bz,Tj,Ud,Hh⟩:=AS cP iD;rw [←Ub]at Bz Tj;rw [←Tw]at Ud Hh;obtain ⟨A2,c2,Qi,_,_,T3⟩:=Sl.gY jC dL (hS.bE (zS ..)) J8;have Qi:rr.vl=.slice A2 rr.d.A.length c2:=Qi;have hS:=Qi▸hS;refine (WP.eo (X:=Nat) (fun i=>[(0,pA s),(3,pA b3),(7,.int .i64 (oI (some r))),(10,.int .i64 N.length),(11,.slice A2 rr.d.A.length c2),(12,.int .i64 i)])
    (fun i m'=>i≤q.kL rr.d.A x.id∧Tr m0 M0 X m' (jR (.slice A2 rr.d.A.length c2) rr.d.A::Hy s b3 b8 g c10 x y (N++[y]) (N.length+1) (gu N) vm vo q))
    (fun i m'=>i=q.kL rr.d.A x.id∧Tr m0 M0 X m' (jR (.slice A2 rr.d.A.length c2) rr.d.A::Hy s b3 b8 g c10 x y (N++[y]) (N.length+1) (gu N) vm vo q)) (fun i=>rr.d.A.length-i) 0 3
    (Sub.C1 rfl (Sub.C1 rfl (Sub.C1 rfl (Sub.C1 rfl (Sub.C1 (by rw [Qi];rfl) YC))))) ⟨yI _,hS⟩ ?_ ?_)
   ·clear hS;rintro i m ⟨hi,hS⟩;have ze:=Us.jQ (fun j=>(q.u j).id.lt x.id) rr.d.A (k:=q.kL rr.d.A x.id) rfl;refine ah ?_;refine WP.fk hS rfl J7 ?_;refine aZ ?_;rcases xA i rr.d.A.length with aM|fW
    ·rw [zW (show(i:Int)<(rr.d.A.length:Int) by omega)];obtain ⟨b,hb⟩:=zQ aM;obtain ⟨ad2,rfl⟩:=T3 i b hb;have KT:=Tj b (xU hb);obtain ⟨rb,UW,XX,_⟩:=nodeAt cH cP KT;have Vp:(N++[y])[b]?=some rb:=by rw [vJ J9,UW]
     refine aZ ?_;refine RH.kh aa ai.calm jC dL (JS.bE (zS ..)) hb 0 rfl rfl J7 rfl rfl rfl rfl rfl rfl rfl ?_;refine aZ ?_;refine RH.fg aa ai.calm fV bD (JS.aW (zO _ (zS ..))) Vp 0 (iC rb.d.u.id) rfl rfl rfl J7 rfl rfl rfl Jm rfl rfl rfl ?_;refine aZ ?_;refine RH.cU (p7 rb.d.u.id x.id) fun m hS=>?_
     cases O2:rb.d.u.id.lt x.id with
     |true=>
      refine ah ?_;have dP:i<q.kL rr.d.A x.id:=by
       rcases xA i (q.kL rr.d.A x.id)with h|h
       ·exact h
       ·obtain rfl:i=q.kL rr.d.A x.id:=by omega
        have:=ze.2 b hb;rw [←XX,O2]at this;cases this
      have hw:IntKind.i64.wrap ((i:Int)+1)=((i+1:Nat):Int):=by rw [ag _ J9 J9];simp
      rw [hw];exact QN.round (i+1) YC ⟨dP,hS⟩ J9
     |false=>
      have he:i=q.kL rr.d.A x.id:=by
       rcases xA i (q.kL rr.d.A x.id)with h|h
       ·have:=ze.1 b (xU (by rw [xV,yS h,hb]));rw [←XX,O2]at this;cases this
       ·omega
      refine ah ?_;exact QN.du i YC ⟨he,hS⟩
    ·rw [zV (show¬(i:Int)<(rr.d.A.length:Int) by omega)];refine ah ?_;exact QN.du i YC ⟨J9,hS⟩
   ·clear hS;rintro i m ⟨rfl,hS⟩;refine QN.bx ?_;refine ah ?_;refine ad8 ?_;refine RH.cM (rJ _ (.slice A2 rr.d.A.length c2) rr.d.A (Vw.ro (zS ..)) (q.kL rr.d.A x.id) N.length zp J9) ?_ (hs:=bk.self _);clear hS;rintro w m _ ⟨S,rfl⟩ hS;rw [vI]at hS ⊢;obtain ⟨gw,cw,rfl,rfl,_,_⟩:=hS.dG (zS ..) (by rw [bO];omega);refine ⟨an.ay fun _ h=>zO _ h,_,rfl,?_⟩;refine aZ ?_;refine ab2 ?_;refine RL.rq aa hS (xs:=(N++[y]).flatMap fV) (i:=r*10+8) JN J9 rfl (oX ..) rfl rfl rfl rfl ?_;clear hS;intro m hS;refine ab9 ?_;refine ah ?_;rw [nB fV bD (N++[y]) r rr ⟨{rr.d with A:=aB (q.kL rr.d.A x.id) N.length rr.d.A},.slice (some ⟨gw,0,none⟩) (aB (q.kL rr.d.A x.id) N.length rr.d.A).length cw,rr.vm⟩ 8 _ PR J8 rfl]at hS;obtain ⟨h1,h2⟩:=cH.left cP hr hid gF (by rw [xM,sr];rfl) Ub;have hS:=hS.freeze J8;have hS:=(hS.aH (Pre:=jR (.slice (some ⟨gw,0,none⟩) (aB (q.kL rr.d.A x.id) N.length rr.d.A).length cw) (aB (q.kL rr.d.A x.id) N.length rr.d.A)::aF [g] 164 10 (.slice (some ⟨g,0,none⟩) (N.length+1) c10) (N.length+1) (((N++[y]).set r ⟨{rr.d with A:=aB (q.kL rr.d.A x.id) N.length rr.d.A},.slice (some ⟨gw,0,none⟩) (aB (q.kL rr.d.A x.id) N.length rr.d.A).length cw,rr.vm⟩).flatMap fV)::ab s 162 [.slice (some ⟨g,0,none⟩) (N.length+1) c10,vm,vo]::jR vm (q.put x).F.roots::jR vo q.F.flat::ey 1 (gu N)::[]) JA).drop;refine QN.ar (_,vm) YC ⟨?_,wa hS fun p hp=>?_⟩
    ·rw [List.map_set,uJ];have e:[y].map (·.d)=[(⟨x,some r,true,[],[]⟩:RN)]:=by rw [hy,gF];rfl
     rw [e,AF];exact h1
    ·rcases yn p hp with h|h|h|h|h
     ·exact .inl h
     ·exact .inr (.inl h)
     ·exact .inl (h▸k2)
     ·exact .inr (.inr (by rw [h,hy];rfl))
     ·exact .inr (.inr (by rw [h,hy];rfl))
  |none=>
   rw [gF]at MB;have MB:y.d.s=false:=MB;rw [MB];refine ah ?_;cases iA:q.idx x.l with
   |some l=>
    have pY:=(Us.ba iA).1;obtain ⟨rl,iD,T9,Ub,Tw,_⟩:=nodeAt cH cP pY;obtain ⟨k1,k2⟩:=qt iD;obtain ⟨_,_,KT,Hh⟩:=AS cP pY;rw [←Tw]at KT Hh;have Be:(N++[y])[l]?=some rl:=by rw [vJ J9,iD]
    rw [show decide (oI (some l)≥0)=true from zW (by simp only [oI];omega)];refine ah ?_;have hS:=hS.mf JQ k2;refine WP.dQ hS rfl J7 ?_;refine aZ ?_;refine RH.kh aa ai.calm fV bD (JS.aW (zO _ (zS ..))) Be 9 rfl rfl J7 rfl rfl rfl Jm rfl rfl rfl ?_;refine aZ ?_;have sD:=HU cH cP y (by rw [IP];exact hid) Hh;rw [IP]at sD;refine RH.cM (CA (jR rl.vm rl.d.B::Hy s b3 b8 g c10 x y (N++[y]) (N.length+1) (gu N) vm vo q) s (N++[y]) q.F.flat _ vm vo rl.vm ⟨JQ,.inr ⟨_,_,_,JQ⟩,.inl JQ⟩ rl.d.B (Vw.ro (zS ..)) (by rw [zY];simp;omega) J9 J9 (fun i hi=>by rw [zY];have:=Hh i hi;omega) N.length y (by rw [vM (yP _),tG];rfl)) ?_ (hs:=bk.self _);clear hS;rintro w m _ ⟨S,rfl⟩ hS;rw [vI]at hS ⊢;rw [IP,sD]at hS ⊢;obtain ⟨gw,cw,rfl,rfl,_,_⟩:=hS.dG (zS ..) (by rw [bO];omega);refine ⟨an.ay fun _ h=>zO _ h,_,rfl,?_⟩;refine aZ ?_;refine RH.one rfl J7 rfl ?_;refine RL.rq aa hS (xs:=(N++[y]).flatMap fV) (i:=l*10+9) JN J9 rfl (oX ..) rfl rfl rfl rfl ?_;clear hS;intro m hS;refine RL.N1 (RF.last J7 (QN.calm ?_));refine ah ?_;rw [nB fV bD (N++[y]) l rl ⟨{rl.d with B:=aB (q.kR rl.d.B x) N.length rl.d.B},rl.vl,.slice (some ⟨gw,0,none⟩) (aB (q.kR rl.d.B x) N.length rl.d.B).length cw⟩ 9 _ Be J8 rfl]at hS;obtain ⟨h1,h2⟩:=cH.right cP hr hid gF iA (by rw [xM,iD];rfl) Tw;have hS:=hS.freeze J8;have hS:=(hS.aH (Pre:=jR (.slice (some ⟨gw,0,none⟩) (aB (q.kR rl.d.B x) N.length rl.d.B).length cw) (aB (q.kR rl.d.B x) N.length rl.d.B)::aF [g] 164 10 (.slice (some ⟨g,0,none⟩) (N.length+1) c10) (N.length+1) (((N++[y]).set l ⟨{rl.d with B:=aB (q.kR rl.d.B x) N.length rl.d.B},rl.vl,.slice (some ⟨gw,0,none⟩) (aB (q.kR rl.d.B x) N.length rl.d.B).length cw⟩).flatMap fV)::ab s 162 [.slice (some ⟨g,0,none⟩) (N.length+1) c10,vm,vo]::jR vm (q.put x).F.roots::jR vo q.F.flat::ey 1 (gu N)::[]) JA).drop;refine QN.ar (_,vm) YC ⟨?_,wa hS fun p hp=>?_⟩
    ·rw [List.map_set,uJ];have e:[y].map (·.d)=[(⟨x,some l,false,[],[]⟩:RN)]:=by rw [hy,gF,iA];rfl
     rw [e,AF];exact h1
    ·rcases yn p hp with h|h|h|h|h
     ·exact .inl h
     ·exact .inl (h▸k1)
     ·exact .inr (.inl h)
     ·exact .inr (.inr (by rw [h,hy];rfl))
     ·exact .inr (.inr (by rw [h,hy];rfl))
   |none=>
    refine ah ?_;have iD:q.F.roots.length≤q.us.length:=by have:=gQ q.F;omega
    have XZ:∀i∈q.F.roots,i<q.us.length:=fun i hi=>(cP.mem i).1 (Fo.bT _ i hi)
    have sD:=HU cH cP y (by rw [IP];exact hid) XZ;rw [IP]at sD;refine RL.cM (CA (Hy s b3 b8 g c10 x y (N++[y]) (N.length+1) (gu N) vm vo q) s (N++[y]) q.F.flat _ vm vo vm ⟨JQ,.inr ⟨_,_,_,JQ⟩,.inl JQ⟩ q.F.roots (.inl JQ) (by rw [zY];simp;omega) J9 J9 (fun i hi=>by rw [zY];have:=XZ i hi;omega) N.length y (by rw [vM (yP _),tG];rfl)) ?_ (hs:=bk.self _);clear hS;rintro w m _ ⟨S,rfl⟩ hS;rw [vI,IP,sD]at hS;obtain ⟨gw,cw,rfl,rfl,_,_⟩:=hS.dG (zS ..) (by rw [bO];omega);refine ⟨_,rfl,?_⟩;refine ah ?_
    (try clear hS);intro m hS;refine ah ?_
    obtain ⟨h1,h2⟩:=cH.root cP hr hid gF iA;rw [←AF]at h2;have hS:=hS.freeze J8;have hS:=(hS.aH (Pre:=jR (.slice (some ⟨gw,0,none⟩) (aB (q.kR q.F.roots x) N.length q.F.roots).length cw) (aB (q.kR q.F.roots x) N.length q.F.roots)::aF [g] 164 10 (.slice (some ⟨g,0,none⟩) (N.length+1) c10) (N.length+1) ((N++[y]).flatMap fV)::ab s 162 [.slice (some ⟨g,0,none⟩) (N.length+1) c10,.slice (some ⟨gw,0,none⟩) (aB (q.kR q.F.roots x) N.length q.F.roots).length cw,vo]::jR (.slice (some ⟨gw,0,none⟩) (aB (q.kR q.F.roots x) N.length q.F.roots).length cw) (q.put x).F.roots::jR vo q.F.flat::ey 1 (gu N)::[]) JA).drop;refine QN.ar (N++[y],_) YC ⟨?_,wa hS fun p hp=>?_⟩
    ·rw [uJ];have e:[y].map (·.d)=[(⟨x,none,false,[],[]⟩:RN)]:=by rw [hy,gF,iA];rfl
     rw [e];exact h1
    ·obtain ⟨z,hz,h3⟩:=vS.1 hp;rcases yL.1 hz with hz|hz
     ·exact .inl (vS.2 ⟨z,hz,h3⟩)
     ·rw [zT]at hz;subst hz;simp only [yH,uT,uU]at h3;exact .inr (.inr (by rcases h3 with h|h<;>(rw [h,hy];rfl)))
 ·clear hS;rintro ⟨N',vm'⟩ m ⟨h1,hS⟩;dsimp only at h1 hS ⊢;have Td:=cP.put hr hid;have s3:N'.length=(q.put x).us.length:=by rw [←h1.len,uF]
  rw [Us.gB]at s3;refine ah ?_;have oN:=hS.empty 3 1 none;have w9:(q.put x).F.sz=q.us.length+1:=by rw [←Us.gB q x];exact Td.fe
  refine RL.cM (NM s N' _ vm' vo _ (q.put x).F (LN s g c10 N' (N.length+1) vm' vo (q.put x).F.roots q) [] vm' _ [] rfl JQ (.inr ⟨_,_,_,JQ⟩) JQ (.inl JQ) h1.rf (by rw [w9];simp;omega)) ?_ (hS:=oN) (hs:=bk.self _);clear hS oN;rintro w m _ ⟨S,rfl⟩ hS;rw [vI,yC]at hS;obtain ⟨A8,c8,rfl,_⟩:=Ev.Own.shape (show Ev.Own m S 3 1 w _ _ from hS.head);refine aa7 ?_
  (try clear hS);intro m hS;refine ah ?_
  refine QN.aj rfl rfl ⟨_,rfl,_,⟨rfl,rfl⟩,?_⟩;have hS:=(hS.freeze J8).perm (.swap ..);have hS:=hS.freeze J8;exact eJ h1 Td (by rw [Us.gB];omega) (hS.aH (Pre:=pc s N' (.slice (some ⟨g,0,none⟩) (N.length+1) c10) vm' (.slice A8 (q.put x).F.flat.length c8) (q.put x).F.roots (q.put x).F.flat []) JC).drop
end Go.Proofs.YtgpgladbdoimdaaGreatDoor
