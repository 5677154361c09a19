/- Texts that belong together. -/
import Derived.Test.YtgpgladbdoimdaaGreatDoorMLawMV41
namespace Go.Proofs.YtgpgladbdoimdaaGreatDoor
open Go.ChangeShapes Go.WideShapes Go.ChangeAt Go.RowKit Go.Ev Go.Ids Go.SeqP
set_option maxRecDepth 20000
set_option maxHeartbeats 12000000
theorem _root_.Go.Ev.bY.two{P:Program}{fn:Func}{n:Nat}{e:Env}{D:Fr}{m:World}{t u:Tmp}{v v':Value}(hr:fn.results=#[.tmp t,.tmp u])(ht:e.get t=some v)(hu:e.get u=some v'):bY P fn n e D m (.tuple #[v,v']):=by
 intro a w hf _;rw [results_tmp2 hr,dz (hf.get t v ht),dz (hf.get u v' hu)]
theorem L1(v:Value)(l:List aG)(hl:l.length<1000000000)(id:aL):ee Tryz.prog 44 [v,iV id] [bW 3 v (l.flatMap rC)] (.bool (hasB l id)):=by
 intro m X hS;refine (MA m v l (Sl.less hS.head.1 (fun k hk=>by cases hk) J9) hl id).mono ?_;rintro r m' ⟨h1,h2⟩;exact ⟨_,⟨h1,rfl⟩,(hS.calm h2).tail⟩
theorem Oy{us:List Un}{a:sF}(cP:(ka us).Ok):0≤(kP us a).1∧(kP us a).1≤us.length+1:=by
 have h:=u9 _ cP a.id;have BZ:(ka us).us.length=us.length:=rfl;unfold kP
 split
 ·simp only
  split<;>omega
 ·split
  ·simp only;omega
  ·simp only;split<;>omega
def iy(D:List aG)(us:List Un)(n:Nat):Nat:=((us.take n).filter fun u=>!hasB D u.id).length
theorem Gx{D:List aG}{us:List Un}{n:Nat}{u:Un}(h:us[n]?=some u):iy D us (n+1)=iy D us n+(if hasB D u.id then 0 else 1):=by
 unfold iy;rw [wB,h,xX,zY];cases hh:hasB D u.id<;>simp [hh]
theorem LH(D:List aG)(us:List Un)(n:Nat):iy D us n≤us.length:=wG (xD _ _) J6
def gX(D:List aG)(us:List Un)(a:sF):Int×Bool:=if(kP us a).2 then(iy D us (kP us a).1.toNat,true)else(0,false)
theorem Us.Ok.yk{q:Us}(h:q.Ok):(ka q.ax).Ok:=by
 have:=Hz (us:=q.ax) (ad:=[]) h.lz fun u hu=>by
  obtain ⟨i,CY,rfl⟩:=vE.1 hu;exact h.right _ (Us.DO ((h.mem i).1 CY))
 exact this
theorem um(d:Nat)(x:Dx)(a:sF)(hq:x.q.Ok)(ep:x.q.us.length≤1000000)(ht:x.q.tr=true)(hl:x.D.length<1000000000):
  bu Tryz.prog 15 [pA d,aV a] (bC d x []) (fun r H=>r=.tuple #[.int .i64 (gX x.D x.q.ax a).1,.bool (gX x.D x.q.ax a).2]∧∃S5,H=bC d {x with S5:=S5} []):=by
 intro m0 X hS;obtain ⟨M0,bR⟩:=zP (au (bC d x []));rw [←bR]at hS ⊢;have cP:=hq.yk;have BZ:=hq.sT;have hgn:=Oy (a:=a) cP;refine aP.zB Tryz.func15 ?_;refine aR ?_;refine RL.bn hS rfl rfl rfl ?_;(try clear hS);intro b3 m hS;refine ⟨_,rfl,?_⟩;refine aR ?_;refine zD (Og d x ht) ?_;clear hS;rintro _ m _ ⟨S2,s2,S5,ad,rfl,rfl⟩ hS;have hS:=hS.perm (xI (l₁:=gS S2 s2 (mC x.q.ax ad)::bC d {x with S5:=S5} []) (l₂:=[ab b3 32 (aC a)]));have hS:Tr m0 M0 X m (ab b3 32 (aC a)::gS S2 s2 (mC x.q.ax ad)::bC d {x with S5:=S5} []):=hS;refine ⟨_,rfl,?_⟩;refine aR ?_;refine zD (Q0 S2 s2 x.q.ax ad a cP J9) ?_;clear hS;rintro _ m _ ⟨rfl,S2,rfl⟩ hS;simp only [zC,zN]at hS;refine ⟨_,rfl,?_⟩;refine aR ?_;refine RL.aU aa rfl hS rfl rfl ?_;(try clear hS);intro b7 m hS;refine ⟨_,rfl,?_⟩;refine aR ?_;refine RL.aO aa hS rfl rfl rfl rfl YB YB JN YB ?_;(try clear hS);intro m hS;refine aR ?_;obtain ⟨gp,V6⟩:∃gp:Nat,(kP x.q.ax a).1=(gp:Int):=⟨(kP x.q.ax a).1.toNat,J9⟩;cases hg:(kP x.q.ax a).2 with
 |false=>
  refine aR ?_;exact QN.ng (.inl rfl) (bY.two rfl rfl rfl) ⟨_,rfl,_,⟨by rw [gX,hg];rfl,S5,rfl⟩,(hS.aH (Pre:=bC d {x with S5:=S5} []) JB).drop⟩
 |true=>
  rw [V6]at hS;refine aR ?_;refine zD (PI d {x with S5:=S5} hl) ?_;clear hS;rintro v m _ ⟨_,rfl⟩ hS;simp only [bC,zC,zN]at hS;obtain ⟨A,c,hv,_⟩:=Rs.shape (show Rs m _ v x.D from hS.head.1);subst hv;refine ac9 ?_;refine ac3 ?_;(try clear hS);intro b9 m hS;refine ac9 ?_;refine ac3 ?_;(try clear hS);intro b10 m hS;refine ac9 ?_;refine aa4 ?_;(try clear hS);intro m hS;refine aR ?_;refine aa4 ?_;(try clear hS);intro m hS;refine aR ?_;refine zG (C9 s2) ?_;clear hS;rintro _ m _ ⟨bx,rfl,rfl⟩ hS;simp only [zC,zN]at hS;refine ac9 ?_;obtain ⟨v,hv⟩:=zP (Value.slice A x.D.length c);rw [←hv]at hS;have hS:=(hS.aH (Pre:=gS S2 s2 (mC x.q.ax ad)::bW 3 v (x.D.flatMap rC)::ab bx 105 [pA s2]::ab b10 3 [.int .i64 0]::ab b9 46 [v]::ab b7 3 [.int .i64 gp]::bC d {x with S5:=S5} []) JC).drop;obtain ⟨ra,rt,fr,at_,ord,rv,N,k,hS⟩:=vi hS;have hS:=hS.perm (tM (_::_::_::_::N.map Nf.A) [_,_,_,_,_] (bC d {x with S5:=S5} []));have XA:(mC x.q.ax ad).ax=x.q.ax:=Er ..;have pK:∀{m:World} {n:Nat},Tr m0 M0 X m (bW 3 v (x.D.flatMap rC)::ab bx 105 [pA s2]::ab b10 3 [.int .i64 (iy x.D x.q.ax n)]::ab b9 46 [v]::ab b7 3 [.int .i64 gp]::Dg (mC x.q.ax ad) s2 ra rt fr at_ ord rv N (bC d {x with S5:=S5} []))→Tr m0 M0 X m (bC d {x with S5:=S5} []):=fun h=>
   Tr.drop (F:=N.map Nf.A) (h.tail.tail.tail.tail.tail.tail.tail.tail.tail.perm xI)
  refine WP.jt (β:=Nat) (fun y:Nat×Un=>[.int .i64 y.1,uV y.2]) rfl (wk (mC x.q.ax ad) bx s2 (.map (some ra)) rv (.map (some rt)) (.bool fr) ord (by rw [k.ok.fe];exact k.ep)) ⟨_,Tryz.func90,J7,J7⟩ hS
   (fun pre H=>pre.length≤gp∧H=bW 3 v (x.D.flatMap rC)::ab bx 105 [pA s2]::ab b10 3 [.int .i64 (iy x.D x.q.ax pre.length)]::ab b9 46 [v]::ab b7 3 [.int .i64 gp]::Dg (mC x.q.ax ad) s2 ra rt fr at_ ord rv N (bC d {x with S5:=S5} []))
   (fun c _ H=>c=.exit 0∧H=bW 3 v (x.D.flatMap rC)::ab bx 105 [pA s2]::ab b10 3 [.int .i64 (iy x.D x.q.ax gp)]::ab b9 46 [v]::ab b7 3 [.int .i64 gp]::Dg (mC x.q.ax ad) s2 ra rt fr at_ ord rv N (bC d {x with S5:=S5} [])) ⟨yI _,rfl⟩ ?_ _ (fun _=>rfl) (fun _=>rfl)
   (fun y b=>[(7,pA b7),(9,pA b9),(10,pA b10),(11,.int .i64 y.1),(12,pA b)]) (fun y b G=>G=[ab b 101 (uC y.2)]) ?_ ?_ ?_ ?_
  ·rintro pre H C ⟨_,rfl⟩;exact k.view YA YA YA (fun A hA=>by simp [hA])
  ·intro l C pre x G m1 H1 _ _ hS;refine ai5 ?_;(try clear hS);intro b m hS;(try clear hS);intro m hS;refine aR ?_;exact QN.qE b _ YC hS rfl
  ·rintro l2 C pre y b _ G m2 _ ⟨hp,rfl⟩ ⟨Tq,Rl⟩ rfl hS;rw [XA]at Rl;have QJ:=hS.tail;have hS:=hS.mK;simp only [zC,zN]at hS;refine aR ?_;rw [Tq]
   by_cases fW:gp≤pre.length
   ·have hd:decide ((pre.length:Int)≥(gp:Int))=true:=zW J9;rw [hd];refine aR ?_;have he:pre.length=gp:=by omega
    refine WP.exit ?_
    (with_reducible repeat(first|refine QN.tx ?_|refine QN.tW rfl ?_))
    exact QN.RW QJ ⟨rfl,by rw [he]⟩
   ·have hd:decide ((pre.length:Int)≥(gp:Int))=false:=zV J9;rw [hd];refine aR ?_;refine zJ (L1 v x.D hl y.2.id) (fun m hS=>?_);refine aR ?_;have Px:=Gx (D:=x.D) Rl;have jW:=LH x.D x.q.ax pre.length;cases hh:hasB x.D y.2.id with
    |true=>
     rw [hh]at Px;refine aR ?_;have Px:iy x.D x.q.ax (pre.length+1)=iy x.D x.q.ax pre.length:=Px;rw [←Px]at hS;exact QN.fY (hS.tail.perm (xI (l₁:=C::bW 3 v (x.D.flatMap rC)::ab bx 105 [pA s2]::ab b10 3 [.int .i64 (iy x.D x.q.ax (pre.length+1))]::ab b9 46 [v]::ab b7 3 [.int .i64 gp]::Dg (mC x.q.ax ad) s2 ra rt fr at_ ord rv N (bC d {x with S5:=S5} [])) (l₂:=G))) ⟨J6,YA⟩
    |false=>
     rw [hh]at Px;refine aR ?_;rw [zX J8]at Px;have hw:IntKind.i64.wrap ((iy x.D x.q.ax pre.length:Int)+1)=((iy x.D x.q.ax (pre.length+1):Nat):Int):=by rw [ag _ J9 J9,Px];simp
     rw [hw];refine aa4 ?_;(try clear hS);intro m hS;refine aR ?_;exact QN.fY (hS.tail.perm (xI (l₁:=C::bW 3 v (x.D.flatMap rC)::ab bx 105 [pA s2]::ab b10 3 [.int .i64 (iy x.D x.q.ax (pre.length+1))]::ab b9 46 [v]::ab b7 3 [.int .i64 gp]::Dg (mC x.q.ax ad) s2 ra rt fr at_ ord rv N (bC d {x with S5:=S5} [])) (l₂:=G))) ⟨J6,YA⟩
  ·rintro B r xs m' _ zy ⟨hp,rfl⟩ hS;refine aR ?_;rw [XA]at zy;refine QN.jq (r:=.tuple #[.int .i64 (iy x.D x.q.ax xs.length),.bool true]) (.inl rfl) hS (fun m' hS=>⟨bY.two rfl rfl rfl,_,rfl,_,⟨?_,S5,rfl⟩,pK hS⟩);have e:iy x.D x.q.ax xs.length=iy x.D x.q.ax gp:=by unfold iy;rw [yD J9,yD J9]
   rw [gX,hg,yS rfl,V6,Int.toNat_natCast,e]
  ·rintro B r c pre m' _ ⟨rfl,rfl⟩ hS;refine aR ?_;refine WP.exit ?_;refine YF ?_;refine aR ?_;refine QN.jq (r:=.tuple #[.int .i64 (iy x.D x.q.ax gp),.bool true]) (.inl rfl) hS (fun m' hS=>⟨bY.two rfl rfl rfl,_,rfl,_,⟨?_,S5,rfl⟩,pK hS⟩);rw [gX,hg,yS rfl,V6,Int.toNat_natCast]
end Go.Proofs.YtgpgladbdoimdaaGreatDoor
