/- Texts that belong together. -/
import Derived.Test.YtgpgladbdoimdaaGreatDoorMLawMV30
import Derived.Test.YtgpgladbdoimdaaGreatDoorMLawMV31
import Derived.Test.YtgpgladbdoimdaaGreatDoorMLawMV34
namespace Go.Proofs.YtgpgladbdoimdaaGreatDoor
open Go.ChangeShapes Go.WideShapes Go.ChangeAt Go.RowKit Go.Ev Go.Ids Go.SeqP
set_option maxRecDepth 20000
set_option maxHeartbeats 1000000
def sC(s:List UInt8):List Value:=[.string (str s)]
theorem xe(s:List UInt8):(sC s).length=1:=rfl
theorem DE(mm:Nat)(vl vh:Value)(ML:List a6)(MH:List aG)(L:List az)(hm:ab mm 134 [vl,vh]∈L)(hl:dO vl ML∈L)(hh:qk vh MH∈L)(ep:ML.length≤1000000)(few2:MH.length≤1000000)(vp:Value)(path:List (List UInt8))(hp:Vw L 1 vp (path.flatMap sC))(few3:path.length≤1000000):
  bu Tryz.prog 56 [pA mm,vp] L (fun r H=>(∃(id:aL) (q:Bool),r=.tuple #[iV id,.bool q]∧(id=O0∨∃o∈ML,id=o.id))∧H=L):=by
 intro m0 X hS;obtain ⟨M0,bR⟩:=zP (au L);rw [←bR]at hS ⊢;obtain ⟨A,c,rfl,_,_,hA⟩:=Sl.gY sC xe (hp.at_ hS) J8;refine aP.zA Tryz.func56 ?_;refine ah ?_
 (try clear hS);intro b4 m hS;refine aa7 ?_
 (try clear hS);intro b6 m hS;refine aa7 ?_
 (try clear hS);intro m hS;refine ah ?_
 refine (WP.loop (X:=Nat×aL) (fun z=>[(0,pA mm),(1,.slice A path.length c),(4,pA b4),(6,pA b6),(7,.int .i64 z.1)])
  (fun z m'=>z.1≤path.length∧(z.2=O0∨∃o∈ML,z.2=o.id)∧Tr m0 M0 X m' (ab b6 30 (iC z.2)::ab b4 30 (iC O0)::L)) (fun z=>path.length-z.1) (0,O0)
  YC ⟨yI _,.inl rfl,hS⟩ ?_)
 clear hS;rintro ⟨i,id⟩ m ⟨hi,hid,hS⟩;dsimp only at hi hid hS ⊢;refine ah ?_;rcases xA i path.length with aM|fW
 ·rw [zW (show(i:Int)<(path.length:Int) by omega)];obtain ⟨s,hs⟩:=zQ aM;obtain ⟨ad,rfl⟩:=hA i s hs;have hw:IntKind.i64.wrap ((i:Int)+1)=((i+1:Nat):Int):=by rw [ag _ J9 J9];simp
  refine ah ?_;refine WP.KK (X:=a6×Bool×Nat) (fun z=>[(0,pA mm),(1,.slice (some ad) path.length c),(4,pA b4),(6,pA b6),(7,.int .i64 i),(8,pA z.2.2),(9,.bool z.2.1)]) (fun z m'=>(z.2.1=true→z.1∈ML)∧Tr m0 M0 X m' (ab z.2.2 55 (oC z.1)::ab b6 30 (iC id)::ab b4 30 (iC O0)::L)) ?_ ?_
  ·have got:∀{r:Value},(r=.tuple #[oV ke,.bool false]∨∃o∈ML,r=.tuple #[oV o,.bool true])→∃(o:a6) (q:Bool),(q=true→o∈ML)∧r=.tuple #[oV o,.bool q]:=fun hr=>by
    rcases hr with rfl|⟨o,ho,rfl⟩
    ·exact ⟨ke,false,fun h=>(by cases h),rfl⟩
    ·exact ⟨o,true,fun _=>ho,rfl⟩
   refine WP.bG (ab b6 30 (iC id)::ab b4 30 (iC O0)::L) hS (an.self _) J7 ?_;refine aZ ?_;refine RH.kh aa ai.calm sC xe (Vw.js hp.cons.cons) hs 0 rfl rfl J7 rfl rfl rfl rfl rfl rfl rfl ?_;refine aZ ?_;refine RH.two rfl J7 rfl rfl ?_ ?_
   ·refine RL.cM (MQ mm vl vh ML MH _ (zO _ (zO _ hm)) (zO _ (zO _ hl)) (zO _ (zO _ hh)) ep few2 id s) ?_ (hs:=bk.self (ab b6 30 (iC id)::ab b4 30 (iC O0)::L));clear hS;rintro _ m _ ⟨hr,h9⟩ hS;rw [h9,vI]at hS;obtain ⟨o,q,hq,rfl⟩:=got hr;refine aa1 ?_;refine ah9 ?_;refine aZ ?_
    (try clear hS);intro b8 m hS;refine aa1 ?_
    refine ah9 ?_;refine aZ ?_
    (try clear hS);intro m hS
    refine ah9 ?_;refine ah ?_;exact QN.ar (o,q,b8) YC ⟨hq,hS⟩
   ·refine ac3 ?_;clear hS;intro b8 m hS;refine aa1 ?_;refine ah9 ?_;refine aZ ?_;refine ab2 ?_;refine RL.cM (MQ mm vl vh ML MH _ (zO _ (zO _ (zO _ hm))) (zO _ (zO _ (zO _ hl))) (zO _ (zO _ (zO _ hh))) ep few2 id s) ?_ (hs:=bk.self (ab b8 55 (oC ke)::ab b6 30 (iC id)::ab b4 30 (iC O0)::L));clear hS;rintro _ m _ ⟨hr,h9⟩ hS;rw [h9,vI]at hS;obtain ⟨o,q,hq,rfl⟩:=got hr;refine aa1 ?_;refine ah9 ?_;refine aZ ?_
    (try clear hS);intro m hS
    refine ah9 ?_;refine ah ?_;exact QN.ar (o,q,b8) YC ⟨hq,hS⟩
  clear hS;rintro ⟨o,q,b8⟩ m ⟨hq,hS⟩;dsimp only at hq hS ⊢;refine ah ?_;cases q with
  |false=>
   refine ah ?_
   (try clear hS);intro m hS;refine ah ?_
   exact QN.bH (bY.cg aa hS rfl rfl rfl rfl JR) ⟨_,rfl,_,⟨⟨O0,_,rfl,.inl rfl⟩,rfl⟩,hS.tail.tail.tail⟩
  |true=>
   refine ah ?_;cases hk:((o.v.k:Int)!=5)with
   |true=>
    refine ah ?_
    (try clear hS);intro m hS;refine ah ?_
    exact QN.bH (bY.cg aa hS rfl rfl rfl rfl JR) ⟨_,rfl,_,⟨⟨O0,_,rfl,.inl rfl⟩,rfl⟩,hS.tail.tail.tail⟩
   |false=>
    refine ah ?_
    (try clear hS);intro m hS;refine ah ?_
    rw [hw];exact QN.round (i+1,o.id) YC ⟨aM,.inr ⟨o,hq rfl,rfl⟩,hS.tail⟩ J0
 ·rw [zV (show¬(i:Int)<(path.length:Int) by omega)];refine ah ?_
  (try clear hS);intro m hS;refine ah ?_
  exact QN.bH (bY.cg aa hS rfl rfl rfl rfl JR) ⟨_,rfl,_,⟨⟨id,_,rfl,hid⟩,rfl⟩,hS.tail.tail⟩
structure Rx where
 L:List a6
 K:List bB
 T:List aK
 D:List aG
 q:Us
 ML:List a6
 MH:List aG
 Mk:List a6
 V:List aG
 W:List a6
structure Mg(x:Rx)(n:Nat):Prop where
 L:x.L.length≤n
 K:x.K.length≤n
 T:x.T.length≤4*n
 D:x.D.length≤4*n
 q:x.q.us.length≤4096*n
 ML:x.ML.length≤n
 MH:x.MH.length≤4*n
 Mk:x.Mk.length≤n
 V:x.V.length≤n
abbrev Bd(v:Value)(l:List bB):az:=bW 2 v (l.flatMap cC)
abbrev gh(v:Value)(l:List aK):az:=bW 4 v (l.flatMap tC)
structure Ac where
 L:Value
 K:Value
 T:Value
 D:Value
 Mk:Value
 V:Value
 W:Value
abbrev kf(d s mm:Nat)(x:Rx)(v:Ac)(F:List az):List az:=
 ab d 50 [v.L,v.K,v.T,v.D,pA s,pA mm,v.Mk,v.V,v.W]::dO v.L x.L::Bd v.K x.K::gh v.T x.T::qk v.D x.D::dO v.Mk x.Mk::qk v.V x.V::dO v.W x.W::cQ s x.q::q8 mm x.ML x.MH::F
def XG(d:Nat)(x:Rx)(L:List az):Prop:=∃s mm v,L=kf d s mm x v []
abbrev cN(S:List Nat)(d:Nat)(x:Rx):az:=vz S (XG d x)
theorem gr{m0 m:World}{M0 X:List Nat}{F:List az}{S:List Nat}{d:Nat}{x:Rx}(h:Tr m0 M0 X m (cN S d x::F)):∃s mm v,Tr m0 M0 X m (kf d s mm x v F):=by
 obtain ⟨L,⟨s,mm,v,rfl⟩,hS⟩:=h.open;exact ⟨s,mm,v,hS⟩
theorem cR{m0 m:World}{M0 X:List Nat}{F:List az}{d s mm:Nat}{x:Rx}{v:Ac}(h:Tr m0 M0 X m (kf d s mm x v F)):∃S,Tr m0 M0 X m (cN S d x::F):=
 ⟨_,Tr.close (L:=kf d s mm x v []) h ⟨s,mm,v,rfl⟩⟩
theorem xn(x:aK):(tC x).length=4:=rfl
def wz(q:Us)(a:sF):Int×Bool:=
 if a.id=O0 then(if a.b then(q.us.length:Int)else 0,true)else if q.find a.id<0 then(0,false)else(q.find a.id+if a.b then 1 else 0,true)
theorem CT(L:List az)(s:Nat)(N:List RM)(v vm vo:Value)(q:Us)(hV:x7 L s N q.F.flat v vm vo)(cH:dY q (N.map (·.d)))(cP:q.Ok)(ep:q.us.length≤1000000)(a:sF):
  r7 Tryz.prog 45 [pA s,aV a] L (.tuple #[.int .i64 (wz q a).1,.bool (wz q a).2]):=by
 intro m0 X hS;have AF:N.length=q.us.length:=by rw [←cH.len,uF]
 have kd:=cP.fe;have hf:=cP.pZ a.id;refine aP.zA Tryz.func45 ?_;refine ah ?_
 (try clear hS);intro b3 m hS;refine aa7 ?_
 refine RL.binOp (cX a.id O0) (aY _ _ _ _ _) rfl rfl rfl rfl ?_
 by_cases h0:a.id=O0
 ·rw [zW h0];refine ah ?_;cases hb:a.b with
  |true=>
   refine ah ?_;refine RL.cL (Mz _ s N q.F.flat v vm vo hV.cons) fun m hS=>?_
   refine ah ?_;exact QN.dW rfl rfl rfl ⟨_,rfl,_,⟨by rw [wz,yS h0,hb,yS rfl,kd],rfl⟩,hS.tail⟩
  |false=>
   refine ah ?_;exact QN.dW rfl rfl rfl ⟨_,rfl,_,⟨by rw [wz,yS h0,hb,zX J8],rfl⟩,hS.tail⟩
 ·rw [zV h0];refine ah ?_;have Su:r7 Tryz.prog 94 [pA s,iV a.id] (ab b3 32 (aC a)::L) (.int .i64 (q.find a.id)):=by
   rw [←w8 cH cP a.id];exact wu _ s N q.F.flat v vm vo hV.cons J9 J9 a.id
  refine RL.cL Su fun m hS=>?_
  refine ah ?_
  by_cases hn:q.find a.id<0
  ·rw [zW hn];refine ah ?_;exact QN.dW rfl rfl rfl ⟨_,rfl,_,⟨by rw [wz,zX h0,yS hn],rfl⟩,hS.tail⟩
  ·rw [zV hn];refine ah ?_;cases hb:a.b with
   |true=>
    refine ah ?_;refine QN.dW rfl rfl rfl ⟨_,rfl,_,⟨?_,rfl⟩,hS.tail⟩;rw [wz,zX h0,zX hn,hb,ag _ J9 J9];rfl
   |false=>
    refine ah ?_;refine QN.dW rfl rfl rfl ⟨_,rfl,_,⟨?_,rfl⟩,hS.tail⟩;rw [wz,zX h0,zX hn,hb];simp
theorem Dq(v:Value)(l:List bB)(hl:l.length<1000000000)(c:Nat):ee Tryz.prog 95 [v,.int .u64 c] [Bd v l] (.int .u64 (bI l c)):=by
 intro m X hS;refine (qS m v l (Sl.less hS.head.1 (fun k hk=>by cases hk) J9) hl c).mono ?_;rintro r m' ⟨h1,rfl⟩;exact ⟨[],⟨h1,rfl⟩,hS.tail⟩
theorem KQ(L:List az)(d:Nat)(v:Ac)(c5 c6:Value)(K:List bB)(hd:ab d 50 [v.L,v.K,v.T,v.D,c5,c6,v.Mk,v.V,v.W]∈L)(hk:Bd v.K K∈L)(ep:K.length≤1000000)(id:aL):
  r7 Tryz.prog 112 [pA d,iV id] L (.bool (decide (1≤id.k)&&decide (id.k≤bI K id.c))):=by
 intro m0 X hS;have hN:=hd;refine aP.zA Tryz.func112 ?_;refine ah ?_
 (try clear hS);intro b3 m hS;refine aa7 ?_
 refine ae2 ?_
 by_cases h1:1≤id.k
 ·rw [zW (show(id.k:Int)≥1 by omega)];refine aZ ?_;refine RH.cU (Dq v.K K J9 id.c) (fun m hS=>?_) (hs:=.ro (zO _ hk) rfl .nil);refine ah ?_;refine QN.aj rfl rfl ⟨_,rfl,_,⟨?_,rfl⟩,hS.tail⟩;rw [zW h1,Bool.true_and]
  congr 1
  rw [uZ];simp
 ·rw [zV (show¬(id.k:Int)≥1 by omega)];refine ah ?_;exact QN.aj rfl rfl ⟨_,rfl,_,⟨by rw [zV h1,Bool.false_and],rfl⟩,hS.tail⟩
def IN(l:List a6):Nat:=l.foldl (fun m o=>max m o.st) 0
theorem ue(L:List az)(d:Nat)(v:Ac)(c5 c6:Value)(l:List a6)(hd:ab d 50 [v.L,v.K,v.T,v.D,c5,c6,v.Mk,v.V,v.W]∈L)(hk:dO v.L l∈L)(ep:l.length≤1000000):
  r7 Tryz.prog 55 [pA d] L (.int .u64 (IN l)):=by
 intro m0 X hS;obtain ⟨M0,bR⟩:=zP (au L);rw [←bR]at hS ⊢;have hN:=hd;obtain ⟨A,c,hv,_,_,hA⟩:=Sl.gY oC bP (hS.bE hk) J8;rw [hv]at hN hk;clear hd;refine aP.zA Tryz.func55 ?_;refine ah ?_;refine (WP.loop (X:=Nat) (fun i=>[(0,pA d),(3,.int .u64 (IN (l.take i))),(4,.int .i64 i)]) (fun i m'=>i≤l.length∧Tr m0 M0 X m' L) (fun i=>l.length-i) 0
  YC ⟨yI _,hS⟩ ?_)
 clear hS;rintro i m ⟨hi,hS⟩;refine ah ?_;rcases xA i l.length with aM|fW
 ·rw [zW (show(i:Int)<(l.length:Int) by omega)];obtain ⟨o,ho⟩:=zQ aM;obtain ⟨ad,rfl⟩:=hA i o ho;have hw:IntKind.i64.wrap ((i:Int)+1)=((i+1:Nat):Int):=by rw [ag _ J9 J9];simp
  refine ah ?_;refine RL.kh aa oC bP (hS.bE hk) ho 3 rfl rfl rfl Jm rfl rfl rfl ?_;refine ah ?_;rw [hw,show(if(o.st:Int)>((IN (l.take i):Nat):Int)then(o.st:Int)else((IN (l.take i):Nat):Int))=((IN (l.take (i+1)):Nat):Int) by
   rw [wB,ho,IN,IN,vO];simp only [Option.toList_some,xB,List.foldl_nil]
   split<;>omega]
  exact ag0
 ·rw [zV (show¬(i:Int)<(l.length:Int) by omega)];refine ah ?_;exact QN.aj rfl rfl ⟨_,rfl,_,⟨by rw [yD fW],rfl⟩,hS⟩
set_option maxHeartbeats 2000000
def _root_.Go.Ev.MT:Op→Bool
 |.field _ _ _=>true
 |_=>false
section
variable{P:Program} {T:Ty} {ops:Array Oper} {Q:Exit→Act→World→Prop} {n fuel:Nat} {e e':Env} {D:Fr} {m:World} {d:Option Tmp} {x:Operand} {t ft ty:TypeId} {pos:String} {aft:Array Edge} {g:Option (Nat×Bool)} {v:Value} {r:Row} {fs:List (TypeId×Nat×Nat)} {f off sz k:Nat} {cs vs:List Value} {J:World→Prop} {fin:List Nat} {listed:Array Bool}
theorem _root_.Go.Ev.RH.field(hT:T.Ok P)(hQ:ai Q){i:Nat}(_:gP MT ops fin listed.toList (hY ops listed.toList)=some i)(hB:(be ops&&bq ops fin listed [i])=true)(hi:ops[i]?=some ⟨d,.field t x f,ty,pos,aft,g⟩)(dD:T.row t=some r)(hk:r.k=.stru fs)(hf:fs[f]?=some (ft,off,sz))(L6:T.plain ft=true)(hg:gd ops e ⟨d,.field t x f,ty,pos,aft,g⟩=some true)(hx:e.ev x=some (.agg cs.toArray))(hv:cs[off]?=some v)(hp:aQ n d v e=some e')
  (h:RH P ops Q J fin fuel (listed.setIfInBounds i true) n e' D m):RH P ops Q J fin (fuel+1) listed n e D m:=by
 have h1:=(hT.row dD).k;rw [hk]at h1;obtain ⟨F,hF,sB⟩:=h1;have pR:(F.toList.map fun f=>(f.type,f.offset,P.cellsOf f.type))[f]?=some (ft,off,sz):=by rw [sB];exact hf
 rw [xM]at pR;obtain ⟨fl,kd,Fw⟩:=xN.1 pR;simp only [yK]at Fw;obtain ⟨rfl,rfl,rfl⟩:=Fw;have w9:F[f]?=some fl:=by simpa using kd
 obtain ⟨r2,Bg,sL,Lr,xz⟩:=Ty.fu L6;simp only [bq,wR,wY]at hB;refine RH.take hi hB.1 hB.2.1 hB.2.2 hQ (fun a pf=>.inl ⟨cZ pf hg,fun w _=>?_⟩) hp h;have h2:=(hT.row Bg).cD sL w;rw [Lr]at h2;simp [execOp,pf.ev hx,Instr.field,run_underlying hF,w9,part,asAgg,h2,hv]
theorem _root_.Go.Ev.RH.Ny(hT:T.Ok P)(hQ:ai Q){i:Nat}(_:gP MT ops fin listed.toList (hY ops listed.toList)=some i)(hB:(be ops&&bq ops fin listed [i])=true)(hi:ops[i]?=some ⟨d,.field t x f,ty,pos,aft,g⟩)(dD:T.row t=some r)(hk:r.k=.stru fs)(hf:fs[f]?=some (ft,off,sz))(L6:T.jB ft=some k)(hg:gd ops e ⟨d,.field t x f,ty,pos,aft,g⟩=some true)(hx:e.ev x=some (.agg cs.toArray))(hv:(cs.drop off).take k=vs)(hp:aQ n d (.agg vs.toArray) e=some e')
  (h:RH P ops Q J fin fuel (listed.setIfInBounds i true) n e' D m):RH P ops Q J fin (fuel+1) listed n e D m:=by
 have h1:=(hT.row dD).k;rw [hk]at h1;obtain ⟨F,hF,sB⟩:=h1;have pR:(F.toList.map fun f=>(f.type,f.offset,P.cellsOf f.type))[f]?=some (ft,off,sz):=by rw [sB];exact hf
 rw [xM]at pR;obtain ⟨fl,kd,Fw⟩:=xN.1 pR;simp only [yK]at Fw;obtain ⟨rfl,rfl,rfl⟩:=Fw;have w9:F[f]?=some fl:=by simpa using kd
 obtain ⟨r2,Bg,Lr,xz⟩:=Ty.ec L6;simp only [bq,wR,wY]at hB;refine RH.take hi hB.1 hB.2.1 hB.2.2 hQ (fun a pf=>.inl ⟨cZ pf hg,fun w _=>?_⟩) hp h;have h2:=(hT.row Bg).cD (pW.cT Lr) w;rw [Lr]at h2;have h3:=(hT.row Bg).bX w;rw [xz]at h3;simp [execOp,pf.ev hx,Instr.field,run_underlying hF,w9,part,asAgg,h2,h3,hv]
theorem _root_.Go.Ev.WP.MD{id:Nat}{l:List Oper}{m0:World}{M0 X:List Nat}{H:List az}(L:List az)(hS:Tr m0 M0 X m H)(hL:an H L)(_hf:RG l=fin)(hm:P.follows .mixedOrders=true)(h:RH P l.toArray (Ev.calm Q) (JS m0 M0 X L) fin l.length (Array.replicate l.length false) n e D m):WP P (.region id l.toArray true) Q n e D m:=WP.calm (WP.draw (JS m0 M0 X L) fin hm ⟨H,hS,hL⟩ h)
end
theorem jy(o:a6):(oC o).length=22:=rfl
theorem qN(l:List a6):∀u∈l.flatMap oC,u.oneCell'=true:=fun u hu=>by
 obtain ⟨a,_,ha⟩:=vS.1 hu;simp only [oC,yH,uT,uU]at ha;rcases ha with rfl|rfl|rfl|rfl|rfl|rfl|rfl|rfl|rfl|rfl|rfl|rfl|rfl|rfl|rfl|rfl|rfl|rfl|rfl|rfl|rfl|rfl<;>rfl
def sE(s:List UInt8):Value:=.string (str s)
theorem ui(a b:List UInt8):(str a==str b)=decide (a=b):=by
 show(a.toArray==b.toArray)=_;rw [uZ];simp
theorem QI:zq Tryz.prog 9 sE where
 desc:=⟨_,Tryz.underlying9,.inl fun a b=>by simp only [sE,Instr.sameNow,ui]⟩
 eq:=fun a b w _ _=>by
  have u:=Tryz.underlying9;simp only [sE,Op.equal,Op.maxDepth];rw [show(10000:Nat)=9999+1 from rfl];unfold Op.equalIn;simp [run_underlying u,ui]
 Lw:=fun z a w=>by
  have u:=Tryz.underlying9;rw [show(10000:Nat)=9999+1 from rfl];unfold Instr.checkKey;simp only [Sem.run_bind,run_underlying u,Result.andThen_ok,Sem.run_pure]
 bits:=fun a=>by simp [Instr.sameBits,sE,ui]
structure Kr where
 k:List UInt8
 S:List Nat
 v:Value
 L:List a6
def Kr.A(r:Kr):az:=lY r.S r.v r.L
def lT(R:List Kr):List (List UInt8×Value):=R.map fun r=>(r.k,r.v)
def Qc(r n:Nat)(L:List az):Prop:=∃R:List Kr,L=mapA r sE (lT R)::R.map Kr.A∧∀k∈R,k.L.length≤n
structure Im where
 p:aL
 r:Nat
 S:List Nat
def Im.A(n:Nat)(i:Im):az:=vz i.S (Qc i.r n)
def mP(I:List Im):List (aL×Value):=I.map fun i=>(i.p,.map (some i.r))
def qO(A:List (aL×a6)):List (aL×Value):=A.map fun p=>(p.1,oV p.2)
abbrev jZ(mm r1 r2:Nat)(vh:Value)(A:List (aL×a6))(I:List Im)(n:Nat)(F:List az):List az:=ab mm 208 [.map (some r1),.map (some r2),vh]::mapA r1 iV (qO A)::mapA r2 iV (mP I)::(I.map (Im.A n)++F)
def Wj(mm n:Nat)(L:List az):Prop:=∃r1 r2 vh A I,L=ab mm 208 [.map (some r1),.map (some r2),vh]::mapA r1 iV (qO A)::mapA r2 iV (mP I)::I.map (Im.A n)
abbrev pS(S:List Nat)(mm n:Nat):az:=vz S (Wj mm n)
theorem zu{m0 m:World}{M0 X:List Nat}{F:List az}{S:List Nat}{mm n:Nat}(h:Tr m0 M0 X m (pS S mm n::F)):∃r1 r2 vh A I,Tr m0 M0 X m (jZ mm r1 r2 vh A I n F):=by
 obtain ⟨L,⟨r1,r2,vh,A,I,rfl⟩,hS⟩:=h.open;exact ⟨r1,r2,vh,A,I,hS⟩
theorem lU{m0 m:World}{M0 X:List Nat}{F:List az}{mm n r1 r2:Nat}{vh:Value}{A:List (aL×a6)}{I:List Im}(h:Tr m0 M0 X m (jZ mm r1 r2 vh A I n F)):∃S,Tr m0 M0 X m (pS S mm n::F):=
 ⟨_,Tr.close (L:=ab mm 208 [.map (some r1),.map (some r2),vh]::mapA r1 iV (qO A)::mapA r2 iV (mP I)::I.map (Im.A n)) h ⟨r1,r2,vh,A,I,rfl⟩⟩
theorem KF{m0 m:World}{M0 X:List Nat}{H:List az}{S:List Nat}{Pr Pr':List az→Prop}(h:Tr m0 M0 X m (vz S Pr::H))(hp:∀L,Pr L→Pr' L):Tr m0 M0 X m (vz S Pr'::H):=
 h.AA (B:=vz S Pr') (fun⟨L,h1,h2⟩=>⟨L,hp L h1,h2⟩) (fun _ hk=>hk) (yN.1 (aS _ H▸h.hold.nd)).1
theorem CC{m0 m:World}{M0 X:List Nat}{n n':Nat}(hn:n≤n'):∀(I:List Im) (G F:List az),Tr m0 M0 X m (G++(I.map (Im.A n)++F))→Tr m0 M0 X m (G++(I.map (Im.A n')++F))
 |[],_,_,h=>h
 |i::I,G,F,h=>by
  have h1:Tr m0 M0 X m (vz i.S (Qc i.r n)::(G++(I.map (Im.A n)++F))):=h.perm vU;have h2:=KF (Pr':=Qc i.r n') h1 fun L ⟨R,e,h⟩=>⟨R,e,fun k hk=>wG (h k hk) hn⟩
  have h3:Tr m0 M0 X m ((G++[Im.A n' i])++(I.map (Im.A n)++F)):=h2.perm (by rw [wM];exact (vU (l₁:=G)).symm);have h4:=CC hn I (G++[Im.A n' i]) F h3;rw [wM]at h4;exact h4
theorem CK(A:List (aL×a6))(id:aL):∃o:a6,(bj (qO A) id).getD (oV ⟨O0,0,0,O0,O0,[],.zero,[],O0,⟨O0,false⟩,⟨O0,false⟩⟩)=oV o:=by
 induction A with
 |nil=>exact ⟨_,rfl⟩
 |cons p A ih=>
  by_cases h:p.1=id
  ·exact ⟨p.2,by simp [qO,bj,h]⟩
  ·obtain ⟨o,ho⟩:=ih;exact ⟨o,by simp only [qO,xK,bj,h,wE];exact ho⟩
theorem Lx(A:List (aL×a6))(o:a6):∃A',cI (qO A) o.id (oV o)=qO A':=by
 induction A with
 |nil=>exact ⟨[(o.id,o)],rfl⟩
 |cons p A ih=>
  by_cases h:p.1=o.id
  ·exact ⟨(o.id,o)::A,by simp [qO,cI,h]⟩
  ·obtain ⟨A',hA⟩:=ih;exact ⟨p::A',by simp only [qO,xK,cI,h,wE]at hA ⊢;rw [hA]⟩
theorem Gf(p:aL):∀I:List Im,(bj (mP I) p=none)∨∃I1 i I2,I=I1++i::I2∧i.p=p∧bj (mP I) p=some (.map (some i.r))
 |[]=>.inl rfl
 |i::I=>by
  by_cases h:i.p=p
  ·exact .inr ⟨[],i,I,rfl,h,by simp [mP,bj,h]⟩
  ·have e:bj (mP (i::I)) p=bj (mP I) p:=by simp [mP,bj,h]
   rw [e];rcases Gf p I with h1|⟨I1,i',I2,rfl,h2,h3⟩
   ·exact .inl h1
   ·exact .inr ⟨i::I1,i',I2,rfl,h2,h3⟩
theorem Cz{I:List Im}{p:aL}(r:Nat)(S:List Nat)(h:bj (mP I) p=none):cI (mP I) p (.map (some r))=mP (I++[⟨p,r,S⟩]):=by
 rw [iX _ (lD.1 h)];simp [mP]
theorem Io(k:List UInt8):∀R:List Kr,(bj (lT R) k=none)∨∃R1 r R2,R=R1++r::R2∧r.k=k∧bj (lT R) k=some r.v∧∀S v L,cI (lT R) k v=lT (R1++⟨k,S,v,L⟩::R2)
 |[]=>.inl rfl
 |r::R=>by
  by_cases h:r.k=k
  ·exact .inr ⟨[],r,R,rfl,h,by simp [lT,bj,h],fun S v L=>by simp [lT,cI,h]⟩
  ·have e:bj (lT (r::R)) k=bj (lT R) k:=by simp [lT,bj,h]
   rw [e];rcases Io k R with h1|⟨R1,r',R2,rfl,h2,h3,h4⟩
   ·exact .inl h1
   ·exact .inr ⟨r::R1,r',R2,rfl,h2,h3,fun S v L=>by
     have:=h4 S v L;simp only [lT,yB,xK,cI,h,wE]at this ⊢;rw [this]⟩
theorem K8{R:List Kr}{k:List UInt8}(S:List Nat)(v:Value)(L:List a6)(h:bj (lT R) k=none):cI (lT R) k v=lT (R++[⟨k,S,v,L⟩]):=by
 rw [iX _ (lD.1 h)];simp [lT]
theorem Ir(n:Nat):bu Tryz.prog 83 [] [] (fun r H=>∃s S,r=pA s∧H=[pS S s n]):=by
 intro m0 X hS;refine aP.zA Tryz.func83 ?_;refine ah ?_;refine RL.makeMap hS iV rfl ?_;clear hS;intro r1 m hS;refine aa7 ?_;refine RL.makeMap hS iV rfl ?_;clear hS;intro r2 m hS;refine aa7 ?_
 (try clear hS);intro b m hS;refine aa7 ?_
 refine ah ?_;have hS:=hS.aH (Pre:=[ab b 208 [.map (some r1),.map (some r2),.slice none 0 0],mapA r1 iV (qO []),mapA r2 iV (mP [])]) JC;obtain ⟨S,hS⟩:=lU (A:=[]) (I:=[]) (n:=n) (F:=[]) hS.drop;exact QN.aj rfl rfl ⟨_,rfl,_,⟨b,S,rfl,rfl⟩,hS⟩
theorem Qv(L:List az)(mm r1:Nat)(cs:List Value)(A:List (aL×a6))(hm:ab mm 208 (.map (some r1)::cs)∈L)(hA:mapA r1 iV (qO A)∈L)(id:aL):bu Tryz.prog 233 [pA mm,iV id] L (fun r H=>(∃q,r=.bool q)∧H=L):=by
 intro m0 X hS;obtain ⟨M0,bR⟩:=zP (au L);rw [←bR]at hS ⊢;have hN:=hm;obtain ⟨o,ho⟩:=CK A id;refine aP.zA Tryz.func233 ?_;refine ah ?_
 (try clear hS);intro b3 m hS;refine aa7 ?_
 refine ad8 ?_;refine RH.bin (cX id O0) (aY _ _ _ _ _) ?_;cases hq:decide (id=O0)with
 |true=>
  exact ae4
 |false=>
  refine aZ ?_;refine RH.lookup (k:=id) (es:=qO A) aa ai.calm ko rfl J7 rfl rfl rfl rfl rfl rfl rfl (zO _ hA) (v:=.agg (oC o).toArray) (by show _=oV o;rw [←ho];rfl) rfl ?_;refine aZ ?_;refine RH.Ny (vs:=vC o.v) aa ai.calm rfl J7 rfl rfl rfl rfl rfl rfl rfl rfl rfl ?_;refine aZ ?_;refine RH.field aa ai.calm rfl J7 rfl rfl rfl rfl rfl rfl rfl rfl rfl ?_;refine aZ ?_;cases hk:((o.v.k:Int)==5)with
  |false=>
   exact ae4
  |true=>
   refine aZ ?_;refine RH.lookup (k:=id) (es:=qO A) aa ai.calm ko rfl J7 rfl rfl rfl rfl rfl rfl rfl (zO _ hA) (v:=.agg (oC o).toArray) (by show _=oV o;rw [←ho];rfl) rfl ?_;refine aZ ?_;refine RH.field aa ai.calm rfl J7 rfl rfl rfl rfl rfl rfl rfl rfl rfl ?_;exact ae4
theorem Dl(o:Option Nat)(w:World):(Go.binOp .eql 285 (.map o) (.map none)).run Tryz.prog w=.ok (.bool o.isNone) w:=by
 have u:=Tryz.underlying285;have h:∀n:Nat,(Op.equalIn (n+1) 285 (.map o) (.map none)).run Tryz.prog w=.ok o.isNone w:=fun n=>by
  cases o<;>simp [Op.equalIn,run_underlying u]
 have:=h 9999;simp [Go.binOp,Op.equal,Op.maxDepth,this]
theorem uf(o:Option Nat)(ox oy:Operand)(w:World):(eqGuard .eql 285 ox oy (.map o) (.map none)).run Tryz.prog w=.ok () w:=by simp [eqGuard]
theorem GP(n:Nat)(R:List Kr)(hR:∀k∈R,k.L.length≤n)(key:List UInt8):∃S0 v0 L0 Rest,(bj (lT R) key).getD (.slice none 0 0)=v0∧L0.length≤n∧(∀{m0 m:World} {M0 X:List Nat} {F:List az},Tr m0 M0 X m (R.map Kr.A++F)→Tr m0 M0 X m (lY S0 v0 L0::(Rest++F)))∧
  ∀S v L,L.length≤n+1→∃R':List Kr,cI (lT R) key v=lT R'∧(lY S v L::Rest).Perm (R'.map Kr.A)∧∀k∈R',k.L.length≤n+1:=by
 rcases Io key R with h|⟨R1,r,R2,rfl,hk,h,eG⟩
 ·refine ⟨[],.slice none 0 0,[],R.map Kr.A,by rw [h];rfl,yI _,fun hS=>hS.empty 55 22 none,fun S v L hL=>⟨R++[⟨key,S,v,L⟩],K8 S v L h,?_,fun k hk=>?_⟩⟩
  ·rw [uJ];exact (xI (l₁:=[lY S v L]) (l₂:=R.map Kr.A))
  ·rcases yL.1 hk with hk|hk
   ·exact yQ (hR k hk)
   ·rw [zT]at hk;subst hk;exact hL
 ·refine ⟨r.S,r.v,r.L,R1.map Kr.A++R2.map Kr.A,by rw [h];rfl,hR r YA,fun hS=>?_,fun S v L hL=>⟨R1++⟨key,S,v,L⟩::R2,eG S v L,?_,fun k hk=>?_⟩⟩
  ·rw [uJ,xK,wM,yB]at hS;rw [wM];exact hS.perm vU
  ·rw [uJ,xK];exact List.perm_middle.symm
  ·rcases yL.1 hk with hk|hk
   ·exact yQ (hR k (yW _ hk))
   ·rcases yH.1 hk with rfl|hk
    ·exact hL
    ·exact yQ (hR k (yX _ (zO _ hk)))
theorem Gg{α:Type}{a o mm r1 r2 b9 b3:α}{A B Rest R':List α}(hp:(o::Rest).Perm R'):([a,o,mm,r1,r2]++(b9::b3::(A++(B++Rest)))).Perm ((a::R')++(mm::r1::r2::(A++(B++[b9,b3])))):=by
 refine .cons a (List.Perm.trans ?_ (hp.append_right _));refine .cons o ?_;rw [←wM,←wM];refine (xI (l₁:=mm::r1::r2::b9::b3::(A++B)) (l₂:=Rest)).trans (.append_left _ (.cons _ (.cons _ (.cons _ ?_))));exact xI (l₁:=[b9,b3])
theorem EO{α:Type}{i mm r1 r2:α}{A B F:List α}:([i,mm,r1,r2]++A++(B++F)).Perm (mm::r1::r2::((A++i::B)++F)):=by
 simp only [zC,zN,wM];refine List.Perm.trans ?_ (.cons _ (.cons _ (.cons _ (vU (l₁:=A) (l₂:=B++F)).symm)));exact (vU (l₁:=[mm,r1,r2]) (a:=i) (l₂:=A++(B++F))).symm
theorem Py(S:List Nat)(mm n:Nat)(hn:n<1000000)(o:a6):bu Tryz.prog 211 [pA mm,oV o] [pS S mm n] (fun r H=>(∃q,r=.bool q)∧∃S',H=[pS S' mm (n+1)]):=by
 intro m0 X hS;obtain ⟨M0,bR⟩:=zP (au [pS S mm n]);rw [←bR]at hS ⊢;obtain ⟨r1,r2,vh,A,I,hS⟩:=zu hS;have no:∀{m:World} {b3:Nat} {cs:List Value} {F:List az},Tr m0 M0 X m (ab b3 55 cs::jZ mm r1 r2 vh A I n F)→∃H',((∃q,(.bool false:Value)=.bool q)∧∃S',H'=[pS S' mm (n+1)])∧Tr m0 M0 X m H':=fun{m b3 cs F} hS=>by
  have hS:=CC (wA n) I [_,_,_] F hS.tail;obtain ⟨S',hS⟩:=lU hS;exact ⟨_,⟨⟨_,rfl⟩,S',rfl⟩,hS.drop (H:=[_])⟩
 obtain ⟨o1,IU⟩:=CK A o.id;obtain ⟨is,Z3⟩:=zP ((bj (qO A) o.id).isSome);refine aP.zA Tryz.func211 ?_;refine ah ?_
 (try clear hS);intro b3 m hS;refine aa7 ?_
 refine WP.bG _ hS (an.self _) J7 ?_;refine ah ?_;refine RH.lookup (k:=o.id) (es:=qO A) (v:=.tuple #[oV o1,.bool is]) aa ai.calm ko rfl J7 rfl rfl rfl rfl rfl rfl rfl JQ (by rw [←IU,Z3];rfl) rfl ?_;refine ah ?_
 (try clear hS);intro b5 m hS;refine aa7 ?_
 (try clear hS);intro m hS;refine ah ?_
 have hS:=hS.tail;cases hk:((o.k:Int)!=4)with
 |true=>
  exact ah8
 |false=>
 refine ah ?_;refine RL.cU (ja o.id) (fun m hS=>?_) (hs:=.nil);cases hr:o.id.right with
 |false=>
  exact ah8
 |true=>
 refine ah ?_;cases is with
 |true=>
  exact ah8
 |false=>
 refine ah ?_;refine RL.cM (Qv (ab b3 55 (oC o)::jZ mm r1 r2 vh A I n []) mm r1 _ A (zO _ (zS ..)) (zO _ (zO _ (zS ..))) o.p) ?_ (hs:=bk.self _);clear hS;rintro _ m _ ⟨⟨q,rfl⟩,rfl⟩ hS;rw [vI]at hS;refine aa1 ?_;cases q with
 |false=>
  exact ah8
 |true=>
 refine ah ?_;refine RL.cU (rD o.v) (fun m hS=>?_) (hs:=.nil);refine ah ?_
 (try clear hS);intro m hS;refine ah ?_
 obtain ⟨o2,x6⟩:=zP ({o with v:=o.v.clean}:a6);have hS:Tr m0 M0 X _ (ab b3 55 (oC {o with v:=o.v.clean})::jZ mm r1 r2 vh A I n []):=hS;rw [←x6]at hS;have hid:o2.id=o.id:=by rw [x6]
 obtain ⟨A',WL⟩:=Lx A o2;refine WP.dQ hS rfl J7 ?_;refine ah ?_;refine ab2 ?_;refine RL.mapUpdate (k:=o2.id) (v:=oV o2) (es:=qO A) aa hS ko rfl rfl rfl rfl rfl rfl JQ JN rfl ?_;clear hS;intro m hS;rw [WL]at hS;refine ab9 ?_;refine QN.N1 ?_;have hS:Tr m0 M0 X _ (ab b3 55 (oC o2)::jZ mm r1 r2 vh A' I n []):=hS;refine WP.cut (X:=List Im×Im×List Im) (fun z=>[(0,pA mm),(3,pA b3)]) (fun z m'=>bj (mP (z.1++z.2.1::z.2.2)) o2.p=some (.map (some z.2.1.r))∧Tr m0 M0 X m' (ab b3 55 (oC o2)::jZ mm r1 r2 vh A' (z.1++z.2.1::z.2.2) n [])) ?_ ?_
 ·refine ah ?_;refine WP.dQ hS rfl J7 ?_;refine ah ?_;rcases Gf o2.p I with h|⟨I1,i,I2,rfl,Xl,h⟩
  ·refine RH.lookup (k:=o2.p) (es:=mP I) (v:=.map none) aa ai.calm ko rfl J7 rfl rfl rfl rfl rfl rfl rfl JQ (by rw [h];rfl) rfl ?_;refine ah ?_;refine RH.bin (Dl none) (uf _ _ _) ?_;refine ah ?_;refine WP.dQ hS rfl J7 ?_;refine ah ?_;refine ab2 ?_;refine RL.makeMap hS sE rfl ?_;clear hS;intro r3 m hS;refine aa7 ?_;refine ab2 ?_;refine RL.mapUpdate (k:=o2.p) (es:=mP I) aa hS ko rfl rfl rfl rfl rfl rfl JQ JN rfl ?_;clear hS;intro m hS;refine ab9 ?_;rw [Cz r3 (au [mapA r3 sE (lT [])]) h]at hS;have hS:=Tr.close (L:=[mapA r3 sE (lT [])]) (Pr:=Qc r3 n) hS ⟨[],rfl,fun _ h=>by cases h⟩;have hS:Tr m0 M0 X _ ([Im.A n ⟨o2.p,r3,au [mapA r3 sE (lT [])]⟩,ab b3 55 (oC o2),ab mm 208 [.map (some r1),.map (some r2),vh],mapA r1 iV (qO A'),mapA r2 iV (mP (I++[⟨o2.p,r3,au [mapA r3 sE (lT [])]⟩]))]++(I.map (Im.A n)++[])):=hS;refine ah ?_;refine QN.ar (I,⟨o2.p,r3,au [mapA r3 sE (lT [])]⟩,[]) YC ⟨by rw [←Cz r3 _ h,lR,yS rfl],hS.perm ?_⟩;dsimp only [jZ];rw [uJ,vI,vI,List.map_singleton];exact (xI (l₁:=[_]) (l₂:=_::_::_::_::I.map (Im.A n)))
  ·refine af0 ?_;refine RH.bin (Dl (some i.r)) (uf _ _ _) ?_;refine ah ?_;exact QN.ar (I1,i,I2) YC ⟨h,hS⟩
 ·clear hS;rintro ⟨I1,i,I2⟩ m ⟨h,hS⟩;dsimp only at h hS ⊢;obtain ⟨R,hR,hS⟩:∃R:List Kr,(∀k∈R,k.L.length≤n)∧Tr m0 M0 X m (mapA i.r sE (lT R)::(R.map Kr.A++(ab b3 55 (oC o2)::ab mm 208 [.map (some r1),.map (some r2),vh]::mapA r1 iV (qO A')::mapA r2 iV (mP (I1++i::I2))::(I1.map (Im.A n)++I2.map (Im.A n))))):=by
   have h1:Tr m0 M0 X m (Im.A n i::(ab b3 55 (oC o2)::ab mm 208 [.map (some r1),.map (some r2),vh]::mapA r1 iV (qO A')::mapA r2 iV (mP (I1++i::I2))::(I1.map (Im.A n)++I2.map (Im.A n)))):=hS.perm (by
    dsimp only [jZ];rw [vI,uJ,xK];exact vU (l₁:=_::_::_::_::I1.map (Im.A n)))
   obtain ⟨L,⟨R,rfl,hR⟩,h2⟩:=h1.open;exact ⟨R,hR,h2⟩
  obtain ⟨S0,v0,L0,Rest,ZT,hL0,hf,eG⟩:=GP n R hR o2.key;have hS:=hf (F:=_) (show Tr m0 M0 X m (R.map Kr.A++(mapA i.r sE (lT R)::_)) from hS.perm List.perm_middle.symm);have hS:=hS.perm (show(lY S0 v0 L0::(Rest++(mapA i.r sE (lT R)::ab b3 55 (oC o2)::ab mm 208 [.map (some r1),.map (some r2),vh]::mapA r1 iV (qO A')::mapA r2 iV (mP (I1++i::I2))::(I1.map (Im.A n)++I2.map (Im.A n))))).Perm (lY S0 v0 L0::mapA i.r sE (lT R)::ab b3 55 (oC o2)::ab mm 208 [.map (some r1),.map (some r2),vh]::mapA r1 iV (qO A')::mapA r2 iV (mP (I1++i::I2))::(I1.map (Im.A n)++(I2.map (Im.A n)++Rest))) from .cons _ (by
   rw [←wM];exact xI (l₂:=_::_::_::_::_::(I1.map (Im.A n)++I2.map (Im.A n)))))
  refine ah ?_;refine WP.MD [mapA i.r sE (lT R),ab b3 55 (oC o2),ab mm 208 [.map (some r1),.map (some r2),vh],mapA r2 iV (mP (I1++i::I2))] hS JD rfl J7 ?_;refine ah ?_;refine af0 ?_;refine af0 ?_;refine RH.lookup (k:=o2.key) (es:=lT R) (v:=v0) aa ai.calm QI rfl J7 rfl rfl rfl rfl rfl rfl rfl JQ ZT rfl ?_;refine ah ?_;refine ab2 ?_;refine RL.aA aa hS [.tmp 81] (us:=[oV o2]) (oC o2) rfl rfl rfl rfl rfl rfl JO rfl rfl rfl ?_;clear hS;intro b9 m hS;refine aa1 ?_;refine ae8 ?_;refine ah ?_;refine ab2 ?_;have h9:Sl m [] 22 (.slice (some ⟨b9,0,none⟩) 1 1) (oC o2):=hS.aW (zS ..);refine RL.dx aa hS (k:=1) (oC o2) rfl rfl rfl rfl rfl (.tail .head) (Src.cS h9) rfl (fun u hu=>qN [o2] u J2) Jy (by show(_+1)*200≤_;omega) ?_;clear hS h9;intro v' m S' hS;rw [show L0.flatMap oC++oC o2=(L0++[o2]).flatMap oC by simp [List.flatMap_append],show L0.length+1=(L0++[o2]).length by simp]at hS;refine ⟨_,rfl,?_⟩;refine RL.N1 (RH.aD hS JD ?_);refine ah ?_;refine RH.one rfl J7 rfl ?_;refine RL.mapUpdate (k:=o2.key) (es:=lT R) aa hS QI rfl rfl rfl rfl rfl rfl JQ JN rfl ?_;clear hS;intro m hS;refine RL.N1 (RF.last J7 (QN.calm ?_));obtain ⟨R',WQ,hp,hb⟩:=eG S' v' (L0++[o2]) (by rw [zY,uW];omega);rw [WQ]at hS;have hS:=hS.aH (Pre:=[mapA i.r sE (lT R'),lY S' v' (L0++[o2]),ab mm 208 [.map (some r1),.map (some r2),vh],mapA r1 iV (qO A'),mapA r2 iV (mP (I1++i::I2))]) JC;have hS:=Tr.close (L:=mapA i.r sE (lT R')::R'.map Kr.A) (Pr:=Qc i.r (n+1)) (hS.perm (Gg hp)) ⟨R',rfl,hb⟩;obtain ⟨i',hG⟩:=zP (⟨i.p,i.r,au (mapA i.r sE (lT R')::R'.map Kr.A)⟩:Im);rw [show mP (I1++i::I2)=mP (I1++i'::I2) by simp [mP,hG],show vz (au (mapA i.r sE (lT R')::R'.map Kr.A)) (Qc i.r (n+1))=Im.A (n+1) i' by rw [hG];rfl]at hS;have hS:=CC (wA n) I1 [_,_,_,_] _ hS;have hS:=CC (wA n) I2 ([_,_,_,_]++I1.map (Im.A (n+1))) _ (by rw [wM];exact hS);have hS:=hS.perm (EO (B:=I2.map (Im.A (n+1))));obtain ⟨S',hS⟩:=lU (I:=I1++i'::I2) (by rw [jZ,uJ,xK];exact hS);refine ah ?_;exact QN.aj rfl rfl ⟨_,rfl,_,⟨⟨_,rfl⟩,S',rfl⟩,hS.drop (H:=[_])⟩
structure Dx where
 S1:List Nat
 s:Nat
 B:Nat
 rk:Nat
 es:List (Nat×Value)
 S2:List Nat
 vt:Value
 T:List aK
 S3:List Nat
 vd:Value
 D:List aG
 rw:Nat
 W:List (aL×Value)
 S4:List Nat
 vh:Value
 h:List aG
 S5:List Nat
 sq:Nat
 q:Sq
 ru:Nat
 E:List (aL×Value)
 S6:List Nat
 vm:Value
 M:List a6
 mm:Nat
 S7:List Nat
 vv:Value
 V:List aG
 st:Nat
 S8:List Nat
 nm:Nat
abbrev sw(S:List Nat)(v:Value)(l:List aK):az:=aF S 122 4 v l.length (l.flatMap tC)
abbrev bC(d:Nat)(x:Dx)(F:List az):List az:=
 ab d 147 [pA x.s,.map (some x.rk),x.vt,x.vd,.map (some x.rw),x.vh,pA x.sq,.map (some x.ru),x.vm,pA x.mm,x.vv,nU x.st]::pN x.S1 x.s x.B::mapA x.rk nU x.es::sw x.S2 x.vt x.T::df x.S3 x.vd x.D::mapA x.rw iV x.W::df x.S4 x.vh x.h::a7 x.S5 x.sq x.q::mapA x.ru iV x.E::lY x.S6 x.vm x.M::df x.S7 x.vv x.V::pS x.S8 x.mm x.nm::F
def eH(es:List (Nat×Value))(c:Nat):Value:=(bj es c).getD (nU 0)
theorem Fq:bu Tryz.prog 34 [] [] (fun r H=>∃d x,r=pA d∧x.B=0∧x.es=[]∧x.T=[]∧x.D=[]∧x.W=[]∧x.h=[]∧x.q=Bc∧x.M=[]∧x.V=[]∧x.E=[]∧x.nm=0∧H=bC d x []):=by
 intro m0 X hS;refine aP.zA Tryz.func34 ?_;refine go ?_;refine zF KY ?_;clear hS;rintro _ m _ ⟨S1,s,rfl,rfl⟩ hS;simp only [zC,zN]at hS;refine ab4 ?_;refine RL.makeMap hS nU rfl ?_;clear hS;intro rk m hS;refine ab4 ?_;refine RL.makeMap hS iV rfl ?_;clear hS;intro rw_ m hS;refine ab4 ?_;refine zF yr ?_;clear hS;rintro _ m _ ⟨S5,sq,rfl,rfl⟩ hS;simp only [zC,zN]at hS;refine ab4 ?_;refine RL.makeMap hS iV rfl ?_;clear hS;intro ru m hS;refine ab4 ?_;refine zF (Ir 0) ?_;clear hS;rintro _ m _ ⟨mm,S8,rfl,rfl⟩ hS;simp only [zC,zN]at hS;refine ab4 ?_;refine ac8 ?_;(try clear hS);intro d m hS;refine ab4 ?_;have hS:=((((hS.empty 122 4 none).empty 167 3 none).empty 167 3 none).empty 55 22 none).empty 167 3 none;refine QN.aj rfl rfl ⟨_,rfl,_,⟨d,⟨S1,s,0,rk,[],[],.slice none 0 0,[],[],.slice none 0 0,[],rw_,[],[],.slice none 0 0,[],S5,sq,Bc,ru,[],[],.slice none 0 0,[],mm,[],.slice none 0 0,[],0,S8,0⟩,rfl,rfl,rfl,rfl,rfl,rfl,rfl,rfl,rfl,rfl,rfl,rfl,rfl⟩,?_⟩;simp only [bC,sw,df,lY,xE,List.flatMap_nil];exact (hS.aH JC).drop
def oR(o:a6):aG:=⟨o.id.c,o.id.k,o.id.k+o.n⟩
theorem Good.W7{o:a6}(g:Good o):Canon [oR o]:=by
 have h1:=g.id;have h2:=g.top;have h3:=g.gq;simp only [aL.right,num,wR,vY]at h1;refine ⟨fun x hx=>?_,List.pairwise_singleton ..⟩;rw [zT]at hx;subst hx;rw [bL];simp only [oR];omega
theorem tQ{a:List aG}(h:Canon a):minus a []=a:=dA (kM _ _) h fun c k=>by rw [oQ];exact ⟨fun h=>h.1,fun h=>⟨h,dv⟩⟩
theorem B5(a:List aG):minus a a=[]:=dA (kM _ _) Canon.nil fun c k=>by rw [oQ];exact ⟨fun h=>absurd h.1 h.2,fun h=>absurd h dv⟩
theorem F0{a:List aG}(h:Canon a):join [] a=a:=dA (Cc _ _) h fun c k=>by rw [FB];exact ⟨fun h=>h.elim (fun h=>absurd h dv) id,.inr⟩
abbrev TC(d:Nat)(x:Dx)(b3:Nat)(o:a6)(S8:List Nat)(v8:Value)(W:List (aL×Value)):List az:=df S8 v8 [oR o]::ab b3 55 (oC o)::aw::bC d {x with W:=W,h:=[]} []
theorem NQ(d:Nat)(x:Dx)(o:a6)(g:Good o)(hk:eH x.es o.id.c=nU (o.id.k-1))(hW:x.W=[])(hh:x.h=[]):
  bu Tryz.prog 66 [pA d,oV o] (aw::bC d x []) (fun r H=>r=.bool true∧∃S4 vh,H=bC d {x with W:=[(o.id,oV o.clean)],S4:=S4,vh:=vh,h:=[oR o]} []):=by
 intro m0 X hS;have hid:=g.id;simp only [aL.right,num,wR,vY]at hid;have B6:=g.top;have hn:=g.gq;obtain ⟨M0,bR⟩:=zP (au (aw::bC d x []));rw [←bR]at hS ⊢;simp only [bC,hW,hh]at hS;refine aP.zA Tryz.func66 ?_;refine go ?_;refine RL.bn hS rfl rfl rfl ?_;(try clear hS);intro b3 m hS;refine ⟨_,rfl,?_⟩;refine go ?_;refine zJ (mX o g) (fun m hS=>?_);refine go ?_;refine RL.aU aa rfl hS rfl rfl ?_;(try clear hS);intro b5 m hS;refine ⟨_,rfl,?_⟩;refine go ?_;refine RL.er aa hS rfl rfl rfl rfl rfl YB YB JN YB ?_;(try clear hS);intro m hS;refine go ?_;refine RH.lookup (v:=nU (o.id.k-1)) (k:=o.id.c) (es:=x.es) aa ai.calm qG rfl J7 rfl rfl rfl rfl rfl rfl rfl JQ hk rfl ?_;refine go ?_;have hd:decide (((o.id.k-1:Nat):Int)≥(o.id.k:Int))=false:=zV J9;rw [hd];refine go ?_;refine RH.one rfl J7 rfl ?_;refine RL.aA aa hS [.tmp 31] (us:=[.agg (iR o).toArray]) (iR o) rfl rfl rfl rfl rfl rfl JO rfl rfl rfl ?_;clear hS;intro b7 m hS;refine ⟨_,rfl,?_⟩;refine RL.N1 (RH.aD hS JD ?_);refine go ?_;refine RH.iN (fi:=[]) (ca:=[]) hS (CU [b7] x.S4 _ x.vh [oR o] [] YA YA YA) rfl J7 rfl rfl rfl rfl rfl JC ?_;clear hS;rintro v8 m _ ⟨S8,rfl⟩ hS;simp only [zC,zN,tQ g.W7]at hS;obtain ⟨g8,c8,rfl,_,_,_⟩:=hS.dG (show aF S8 167 3 v8 [oR o].length ([oR o].flatMap rC)∈_ from zS ..) YA;simp only [uW]at hS;refine ⟨by simp only [zC,zN];exact JD,_,rfl,?_⟩;refine go ?_;have hS:=(hS.aH (Pre:=TC d x b3 o S8 (.slice (some ⟨g8,0,none⟩) 1 c8) []) JC).drop;refine (WP.loop (X:=Bool) (fun b=>[(0,pA d),(3,pA b3),(7,.slice (some ⟨g8,0,none⟩) 1 c8),(38,.slice (some ⟨g8,0,none⟩) 1 c8),(39,.int .i64 1),(40,.int .i64 (if b then 1 else 0))])
  (fun b m'=>Tr m0 M0 X m' (TC d x b3 o S8 (.slice (some ⟨g8,0,none⟩) 1 c8) (if b then[(o.id,oV o.clean)]else[]))) (fun b=>if b then 0 else 1) false
  YC hS ?_)
 clear hS;rintro b m hS;cases b with
 |true=>
  simp only [yT]at hS ⊢;dsimp only [TC,bC]at hS;refine go ?_;refine WP.exit ?_;refine YF ?_;refine go ?_;refine zH (Fy x.S4 S8 x.vh _ [] [oR o] YA) ?_;clear hS;rintro v10 m _ ⟨S10,rfl⟩ hS;simp only [zC,zN,F0 g.W7]at hS;obtain ⟨A10,c10,rfl,_⟩:=Ev.Own.shape (show Ev.Own m S10 167 3 v10 [oR o].length ([oR o].flatMap rC) from hS.head);refine ab4 ?_;refine aa4 ?_;intro m hS;refine go ?_;refine QN.aj rfl rfl ⟨_,rfl,_,⟨rfl,S10,.slice A10 1 c10,rfl⟩,?_⟩;exact (hS.aH JC).drop
 |false=>
  simp only [wE,wC]at hS ⊢;dsimp only [TC,bC]at hS;have fQ:Sl m [] 3 (.slice (some ⟨g8,0,none⟩) 1 c8) ([oR o].flatMap rC):=Ev.Own.sl (show Ev.Own m S8 167 3 (.slice (some ⟨g8,0,none⟩) 1 c8) 1 _ from hS.mem (A:=df S8 (.slice (some ⟨g8,0,none⟩) 1 c8) [oR o]) (zS ..)) YA;refine go ?_;refine RL.indexAddr (k:=0) aa rfl rfl rfl rfl rfl rfl rfl J9 rfl ?_;refine RL.o8 aa rC (fun _=>rfl) fQ (show[oR o][0]?=some (oR o) from rfl) rfl rfl rfl rfl rfl ?_;refine go ?_;refine RL.aU aa rfl hS rfl rfl ?_;(try clear hS);intro b9 m hS;refine ⟨_,rfl,?_⟩;refine go ?_;refine RL.er aa hS rfl rfl rfl rfl rfl YB YB JN YB ?_;(try clear hS);intro m hS;refine go ?_;have e1:IntKind.i64.wrap (IntKind.u64.wrap (((oR o).f:Int)-(o.id.k:Int)))=0:=by
   simp only [oR];rw [aq _ J9 J9,ag _ J9 J9];omega
  have e2:IntKind.i64.wrap (IntKind.u64.wrap (((oR o).t:Int)-(o.id.k:Int)))=(o.n:Int):=by
   simp only [oR];rw [aq _ J9 J9,ag _ J9 J9];omega
  rw [e1,e2];refine zJ (OF o g) (fun m hS=>?_);refine go ?_;refine ac3 ?_;(try clear hS);intro b10 m hS;refine ab4 ?_;refine aa2 ?_;intro m hS;refine go ?_;refine RH.fD (k:=o.clean.id) (v:=oV o.clean) aa hS ko rfl J7 rfl rfl rfl rfl rfl rfl rfl JQ JN rfl J7 ?_;clear hS;intro m hS;refine QN.calm ?_;refine go ?_;refine QN.round true YC ?_ J8;exact (hS.aH JC).drop
theorem _root_.Go.Ev.bu.look{P:Program}{f:FuncId}{args:List Value}{Pre:List az}{Post:Value→List az→Prop}(h:bu P f args Pre Post)(m:World)(ho:au Pre=[])(hp:∀A∈Pre,A.P m []):dg P f args m fun r m'=>(∃H,Post r H)∧Ext m [] m':=by
 have hT:Tr m (au Pre) [] m Pre:=Tr.start ⟨fun A hA=>by rw [ho];exact hp A hA,by rw [ho];exact uP,fun k hk=>by rw [ho]at hk;cases hk⟩ (fun _ h=>by cases h);exact (h m [] hT).mono fun r m' ⟨H',hr,ON⟩=>⟨⟨H',hr⟩,by have:=ON.ext;rwa [ho]at this⟩
theorem To(L:List az)(v u:Value)(a b:List aK)(h1:Vw L 4 v (a.flatMap tC))(h2:Vw L 4 u (b.flatMap tC))(hl:a.length<1000000000):r7 Tryz.prog 69 [v,u] L (.bool (decide (a=b))):=by
 intro m X hS;refine ((xv v u a b hl).look m rfl (fun A hA=>?_)).mono ?_
 ·simp only [yH,uT,uU]at hA;rcases hA with rfl|rfl
  ·exact ⟨h1.at_ hS,J8⟩
  ·exact ⟨h2.at_ hS,J8⟩
 ·rintro r m' ⟨⟨_,h3,_⟩,hE⟩;exact ⟨_,⟨h3,rfl⟩,hS.calm hE⟩
theorem Kb(L:List az)(v u:Value)(a b:List aK)(h1:Vw L 4 v (a.flatMap tC))(h2:Vw L 4 u (b.flatMap tC))(hl:a.length+b.length<100000000):bu Tryz.prog 68 [v,u] L (fun r H=>∃T' S,DJ (a++b) T'∧H=sw S r T'::L):=by
 intro m X hS;refine (KL m v u a b (h1.at_ hS) (h2.at_ hS) hl).mono ?_;rintro r m' ⟨T',hT,S,e1,e2⟩;exact ⟨_,⟨T',S,hT,rfl⟩,hS.made e1 e2⟩
theorem HW(L:List az)(v:Value)(l:List aK)(h1:Vw L 4 v (l.flatMap tC))(hc:bb l)(hl:l.length<100000000):bu Tryz.prog 70 [v] L (fun r H=>∃S,H=df S r (clean (hid l))::L):=by
 intro m X hS;refine (G1 m v l (h1.at_ hS) hl).mono ?_;rintro r m' ⟨L',hL,S,e1,e2⟩;obtain rfl:L'=l:=de hL.1 hc hL.2.1;exact ⟨_,⟨S,rfl⟩,hS.made e1 e2⟩
theorem Pd(S S3:List Nat)(mm n:Nat)(v:Value)(D:List aG)(hl:D.length<500000000):bu Tryz.prog 71 [pA mm,v] [pS S mm n,df S3 v D] (fun _ H=>∃S',H=[pS S' mm n,df S3 v D]):=by
 intro m0 X hS;obtain ⟨M0,bR⟩:=zP (au [pS S mm n,df S3 v D]);rw [←bR]at hS ⊢;obtain ⟨r1,r2,vh,A,I,hS⟩:=zu hS;have hS:=hS.perm (show(jZ mm r1 r2 vh A I n [df S3 v D]).Perm (df S3 v D::jZ mm r1 r2 vh A I n []) from by
  dsimp only [jZ];rw [vI];exact (xI (l₁:=_::_::_::I.map (Im.A n)) (l₂:=[df S3 v D])))
 have hm:df S3 v D∈df S3 v D::jZ mm r1 r2 vh A I n []:=zS ..;refine aP.zA Tryz.func71 ?_;refine ah ?_;refine zM (ly _ v D (hS.aW hm) hl) ?_;rintro v2 m' ⟨S2,e1,e2⟩;have hS:=hS.made e1 e2;obtain ⟨A2,c2,rfl,_⟩:=Ev.Own.shape (show Ev.Own m' S2 167 3 v2 _ _ from hS.head);have hS:=hS.tail;refine ⟨_,rfl,?_⟩;refine ah ?_
 (try clear hS);intro m hS;refine ah ?_
 obtain ⟨w,hw⟩:=zP (.slice A2 (clean D).length c2:Value);have hS:Tr m0 M0 X _ (df S3 v D::jZ mm r1 r2 (.slice A2 (clean D).length c2) A I n []):=hS;rw [←hw]at hS;obtain ⟨S',hS⟩:=lU (F:=[df S3 v D]) (hS.perm (show(df S3 v D::jZ mm r1 r2 w A I n []).Perm (jZ mm r1 r2 w A I n [df S3 v D]) from by
  dsimp only [jZ];rw [vI];exact (xI (l₁:=[df S3 v D]) (l₂:=_::_::_::I.map (Im.A n)))))
 exact QN.kg rfl ⟨_,rfl,_,⟨S',rfl⟩,hS⟩
end Go.Proofs.YtgpgladbdoimdaaGreatDoor
