/- Texts that belong together. -/
import Derived.Test.YtgpgladbdoimdaaGreatDoorMLawMV41
namespace Go.Proofs.YtgpgladbdoimdaaGreatDoor
open Go.ChangeShapes Go.WideShapes Go.ChangeAt Go.RowKit Go.Ev Go.Ids Go.SeqP
set_option maxRecDepth 20000
set_option maxHeartbeats 12000000
theorem D3(m:World)(b:Nat):Sx Tryz.prog 120 [pA b] .returning m fun ed u' m'=>ed=.returned (.tuple #[])∧u'=.returning∧m'=m:=by
 refine Sx.enter ⟨_,Tryz.func120,J7,J7⟩ Tryz.func120 rfl rfl rfl ?_;refine aa8 ?_;refine WP.da rfl ?_;refine ai1 ?_;refine RL.N1 (QN.B1 ?_);exact QN.kg rfl ⟨rfl,rfl,rfl⟩
abbrev Fb(v:Value)(l:List a6):az:=bW 22 v (l.flatMap oC)
abbrev FL(v:Value)(l:List aK):az:=bW 4 v (l.flatMap tC)
theorem CH(x:aK):(tC x).length=4:=rfl
theorem LV(vo vt:Value)(os:List a6)(ts:List aK)(hl:os.length≤1)(ht:ts.length≤4)(hg:∀o∈os,Good o):bu Tryz.prog 65 [.agg #[vo,vt]] [aw,Fb vo os,FL vt ts] (fun _ H=>H=[]):=by
 intro m0 X hS;obtain ⟨M0,bR⟩:=zP (au [aw,Fb vo os,FL vt ts]);rw [←bR]at hS ⊢;obtain ⟨A,c,rfl,_,_,hA⟩:=Sl.gY oC jy (hS.bE (show Fb vo os∈_ from JQ)) J8;obtain ⟨B,c2,rfl,_,_,_⟩:=Sl.gY tC CH (hS.bE (show FL vt ts∈_ from JQ)) J8;refine aP.zA Tryz.func65 ?_;refine ah ?_
 (try clear hS);intro b1 m hS;refine aa7 ?_
 rw [zV (show¬(os.length:Int)>16384 by omega)];refine ah ?_;rw [zV (show¬(ts.length:Int)>16384 by omega)];refine ah ?_;refine (WP.loop (X:=Nat) (fun i=>[(18,.slice A os.length c),(19,.int .i64 os.length),(20,.int .i64 i)])
  (fun i m'=>i≤os.length∧Tr m0 M0 X m' (ab b1 58 [.slice A os.length c,.slice B ts.length c2]::[aw,Fb (.slice A os.length c) os,FL (.slice B ts.length c2) ts])) (fun i=>os.length-i) 0
  YC ⟨yI _,hS⟩ ?_)
 clear hS;rintro i m ⟨hi,hS⟩;refine ah ?_;rcases xA i os.length with aM|fW
 ·rw [zW (show(i:Int)<(os.length:Int) by omega)];obtain ⟨o,ho⟩:=zQ aM;obtain ⟨ad,rfl⟩:=hA i o ho;refine ah ?_;refine RL.fg aa oC jy (hS.bE (show Fb (.slice (some ad) os.length c) os∈_ from JQ)) ho 0 (oC o) rfl rfl rfl rfl rfl rfl rfl rfl ?_;refine ah ?_
  (try clear hS);intro b3 m hS;refine aa7 ?_
  (try clear hS);intro m hS;refine ah ?_
  refine RL.cU (DS o (hg o (xU ho))) (fun m hS=>?_);refine ai7 ?_;exact QN.round (i+1) YC ⟨aM,hS.tail⟩ J9
 ·rw [zV (show¬(i:Int)<(os.length:Int) by omega)];refine ah ?_;exact QN.kg rfl ⟨_,rfl,_,rfl,hS.drop (H:=[])⟩
theorem H4(b:Nat)(vo vt:Value)(os:List a6)(ts:List aK)(hl:os.length≤1)(ht:ts.length≤4)(hg:∀o∈os,Good o):bu Tryz.prog 64 [pA b] [aw,Fb vo os,FL vt ts,ab b 58 [vo,vt]] (fun _ H=>H=[ab b 58 [vo,vt]]):=by
 intro m0 X hS;refine aP.zA Tryz.func64 ?_;refine ah ?_;refine RL.cM (LV vo vt os ts hl ht hg) ?_;clear hS;rintro _ m _ rfl hS;simp only [yC]at hS;refine aa7 ?_;exact QN.kg rfl ⟨_,rfl,_,rfl,(hS.aH (Pre:=[ab b 58 [vo,vt]]) JB).drop⟩
theorem PG(b:Nat)(vo vt:Value)(os:List a6)(ts:List aK)(hl:os.length≤1)(ht:ts.length≤4)(hg:∀o∈os,Good o):bu Tryz.prog 63 [.func (.func 64) #[] #[pA b]] [aw,Fb vo os,FL vt ts,ab b 58 [vo,vt]] (fun v H=>v=.int .i64 0∧H=[ab b 58 [vo,vt]]):=by
 intro m0 X hS;refine aP.NW ⟨_,Tryz.func63,J7,J7⟩ Tryz.func63 rfl rfl ?_;refine aR ?_;refine ac3 ?_;(try clear hS);intro b2 m hS;refine ac9 ?_;refine RL.defer rfl rfl rfl ?_;refine aR ?_;refine RL.dr (fi:=[]) (ca:=[pA b]) hS (H4 b vo vt os ts hl ht hg) rfl rfl rfl rfl JB ?_;clear hS;rintro _ m _ rfl hS;simp only [zC,zN]at hS;refine ac9 ?_;refine aa4 ?_;(try clear hS);intro m hS;refine aR ?_;refine QN.leave (fi:=[]) (ca:=[pA b2]) (.inl ⟨rfl,rfl⟩) rfl (D3 _ b2) ?_ ?_ ?_
 ·rintro v u' m4 ⟨_,rfl,rfl⟩;refine .inl ⟨rfl,.int .i64 0,bY.cell aa rfl rfl rfl ((hS.mem (A:=ab b2 67 [.int .i64 0]) YA).cell 0 rfl),_,rfl,_,⟨rfl,rfl⟩,(hS.aH (Pre:=[ab b 58 [vo,vt]]) JB).drop⟩
 ·rintro ch u' m4 ⟨h,_⟩;cases h
 ·rintro u' m4 ⟨h,_⟩;cases h
structure DI(x:Dx)(n:Nat):Prop where
 k:∀c,∃j,eH x.es c=nU j
 w:x.W=[]
 h:x.h=[]
 tr:x.q.tr=true
 q:x.q.Ok
 us:x.q.us.length≤4096*n
 B:x.B≤n
 V:x.V.length≤n
 M:x.M.length≤n
 nm:x.nm≤n
 T:bb x.T
 tl:x.T.length≤4*n
 D:x.D=clean (hid x.T)
def kU(os:List a6)(f:Nat→Value)(c:Nat):Value:=match os with
 |[]=>f c
 |o::_=>if o.id.c=c then nU (o.id.k+o.n-1)else f c
def qU(os:List a6)(q:Us):Us:=match os with
 |[]=>q
 |o::_=>if o.k=1∨o.k=2 then q.run (oU o) o.n else q
structure Ke(x x':Dx)(os:List a6)(ts:List aK):Prop where
 k:∀c,eH x'.es c=kU os (eH x.es) c
 q:x'.q.toUs=qU os x.q.toUs
 T:∀c k,ak x'.T c k=ak (x.T++ts) c k
structure Kx(x x':Dx)(os:List a6)(n:Nat):Prop where
 W:x'.W=[]
 h:x'.h=[]
 k:∀c,eH x'.es c=kU os (eH x.es) c
 q:x'.q.toUs=qU os x.q.toUs
 tr:x'.q.tr=true
 us:x'.q.us.length≤4096*(n+1)
 B:x'.B≤n+1
 V:x'.V.length≤n+1
 M:x'.M.length≤n+1
 nm:x'.nm≤n+1
 T:x'.T=x.T
 D:x'.D=x.D
 ok:x'.q.Ok
theorem PM{q:Us}(hq:q.Ok)(x:Un)(n:Nat):(q.run x n).Ok∧(q.run x n).us.length≤q.us.length+n∧True:=by
 unfold Us.run
 split
 ·rename_i hr;exact ⟨Us.nH hq (Us.iM.1 hr) n (yP _),by rw [Us.kZ];exact yP _,trivial⟩
 ·exact ⟨hq,Nat.le_add_right ..,trivial⟩
abbrev MV(b3 d:Nat)(vo vt:Value)(os:List a6)(ts:List aK)(x:Dx):List az:=ab b3 58 [vo,vt]::Fb vo os::FL vt ts::aw::bC d x []
theorem w7(d:Nat)(x:Dx)(n:Nat)(hI:DI x n)(hn:n≤190)(vo vt:Value)(os:List a6)(ts:List aK)(hl:os.length≤1)(ht:ts.length≤4)(hg:∀o∈os,Good o∧eH x.es o.id.c=nU (o.id.k-1)∧∀i∈o.cY,∃n,eH x.es i.c=nU n∧i.k≤n)
  (hT:∀T',bb T'→(∀c k,ak T' c k=ak (x.T++ts) c k)→T'.length≤4*(n+1)):
  bu Tryz.prog 20 [pA d,.agg #[vo,vt]] (aw::Fb vo os::FL vt ts::bC d x []) (fun r H=>(∃q,r=.tuple #[.bool q,.int .i64 0])∧∃x',Ke x x' os ts∧DI x' (n+1)∧H=bC d x' []):=by
 intro m0 X hS;obtain ⟨M0,bR⟩:=zP (au (aw::Fb vo os::FL vt ts::bC d x []));rw [←bR]at hS ⊢;obtain ⟨A,c,rfl,_,_,hA⟩:=Sl.gY oC jy (hS.bE (show Fb vo os∈_ from JQ)) J8;obtain ⟨B,c2,rfl,_,_,_⟩:=Sl.gY tC CH (hS.bE (show FL vt ts∈_ from JQ)) J8;obtain ⟨i1,i2,i3,i4,i5,i6,i7,i8,i9,i10,i11,i12,i13⟩:=hI;refine aP.zA Tryz.func20 ?_;refine aR ?_;refine ac8 ?_;(try clear hS);intro b3 m hS;refine ac9 ?_;refine zD (PG b3 _ _ os ts hl ht fun o ho=>(hg o ho).1) ?_;clear hS;rintro _ m _ ⟨rfl,rfl⟩ hS;simp only [zC,zN]at hS;refine ac9 ?_;have hS:=(hS.aH (Pre:=MV b3 d (.slice A os.length c) (.slice B ts.length c2) os ts x) JB).drop;refine (WP.eo (X:=Nat×Dx) (fun z=>[(0,pA d),(3,pA b3),(7,.bool (decide (0<z.1))),(17,.slice A os.length c),(18,.int .i64 os.length),(19,.int .i64 z.1)])
  (fun z m'=>z.1≤os.length∧(z.1=0→z.2=x)∧(0<z.1→∃o S4 vh,os=[o]∧z.2={x with W:=[(o.id,oV o.clean)],S4:=S4,vh:=vh,h:=[oR o]})∧Tr m0 M0 X m' (MV b3 d (.slice A os.length c) (.slice B ts.length c2) os ts z.2))
  (fun z m'=>(os=[]∧z.2=x∨∃o S4 vh,os=[o]∧z.2={x with W:=[(o.id,oV o.clean)],S4:=S4,vh:=vh,h:=[oR o]})∧Tr m0 M0 X m' (MV b3 d (.slice A os.length c) (.slice B ts.length c2) os ts z.2)) (fun z=>os.length-z.1) (0,x) 0
  YC ⟨yI _,fun _=>rfl,fun h=>absurd h (Nat.lt_irrefl _),hS⟩ ?_ ?_)
 ·clear hS;rintro ⟨i,y⟩ m ⟨hi,h0,h1,hZ⟩;dsimp only at hi h0 h1 hZ ⊢;refine aR ?_;rcases xA i os.length with aM|fW
  ·rw [zW (show(i:Int)<(os.length:Int) by omega)];have uj:i=0:=by omega
   subst uj;obtain rfl:=h0 rfl;obtain ⟨o,rfl⟩:∃o,os=[o]:=by
    match os,hl,aM with
    |[o],_,_=>exact ⟨o,rfl⟩
   obtain ⟨g,hc,qv⟩:=hg o (zS ..);obtain ⟨ad,rfl⟩:=hA 0 o rfl;have hS:=hZ;refine aR ?_;refine RL.fg aa oC jy (hS.bE (show Fb (.slice (some ad) [o].length c) [o]∈_ from JQ)) (show[o][0]?=some o from rfl) 0 (oC o) rfl rfl rfl rfl rfl rfl rfl rfl ?_;refine aR ?_;refine RL.aU aa rfl hS rfl rfl ?_;(try clear hS);intro b9 m hS;refine ⟨_,rfl,?_⟩;refine aR ?_;refine RL.er aa hS rfl rfl rfl rfl rfl YB YB JN YB ?_;(try clear hS);intro m hS;refine aR ?_;refine zD (NQ d y o g hc i2 i3) ?_;clear hS;rintro _ m _ ⟨rfl,S4,vh,rfl⟩ hS;simp only [bC,zC,zN]at hS;refine ⟨_,rfl,?_⟩;refine aR ?_;refine QN.round (1,{y with W:=[(o.id,oV o.clean)],S4:=S4,vh:=vh,h:=[oR o]}) YC ⟨yP _,fun h=>absurd h Nat.one_ne_zero,fun _=>⟨o,S4,vh,rfl,rfl⟩,?_⟩ J0;dsimp only [MV,bC];exact (hS.aH JC).drop
  ·rw [zV (show¬(i:Int)<(os.length:Int) by omega)];refine ah ?_;refine QN.du (i,y) YC ⟨?_,hZ⟩;dsimp only;rcases xR i with h|h
   ·exact .inl ⟨wO J9,h0 h⟩
   ·exact .inr (h1 h)
 ·clear hS;rintro ⟨i,y⟩ m ⟨hy,hS⟩;dsimp only at hy hS ⊢;refine QN.bx ?_;refine aR ?_;have hS:=(hS.aH (Pre:=aw::bC d y []) JC);have hF:∀y,Kx x y os n→y.W=[]∧y.h=[]∧∀c,∃n,eH y.es c=nU n:=fun y h=>⟨h.W,h.h,fun c=>by
   rw [h.k c]
   match os with
   |[]=>exact i1 c
   |o::_=>
    show∃n,(if o.id.c=c then nU (o.id.k+o.n-1)else eH x.es c)=nU n
    split
    ·exact ⟨_,rfl⟩
    ·exact i1 c⟩
  have Vx:bu Tryz.prog 67 [pA d] (aw::bC d y []) (fun _ H=>∃x',Kx x x' os n∧H=bC d x' []):=by
   rcases hy with⟨rfl,rfl⟩|⟨o,S4,vh,rfl,rfl⟩
   ·exact Iu d y (fun x'=>Kx y x' [] n) i4 i5 J9 J9 J9 J9 i1 hF (.inl ⟨i2,i3,fun _=>rfl,rfl,i4,J9,yQ i7,yQ i8,yQ i9,yQ i10,rfl,rfl,i5⟩)
   ·obtain ⟨g,hc,qv⟩:=hg o (zS ..);have hle:=g.vq;refine Iu d _ (fun x'=>Kx x x' [o] n) i4 i5 (show x.B<10000 by omega) (show x.V.length<1000000 by omega) (show x.M.length<1000000 by omega) (show x.nm<1000000 by omega) i1 hF (.inr ⟨o.clean,⟨g.clean,show x.q.us.length+o.n≤1000000 by omega,rfl,rfl,hc,qv⟩,fun x' hL=>?_⟩);obtain ⟨e1,e2,e3,e4,e5,e6,e7,e8,e9,e10,e11⟩:=hL;obtain ⟨r1,r2,_⟩:=PM i5 (oU o) o.n;refine ⟨e7,e8,e1,e2,e3,?_,by rw [e4];exact tJ i7,wG e9 (tJ i8),wG e10 (tJ i9),wG e11 (tJ i10),e5,e6,?_⟩
    ·have:x'.q.us.length≤x.q.us.length+o.n:=by
      show x'.q.toUs.us.length≤_;rw [e2]
      split
      ·exact r2
      ·exact Nat.le_add_right _ _
     omega
    ·show x'.q.toUs.Ok;rw [e2]
     split
     ·exact r1
     ·exact i5
  refine RL.dr (fi:=[]) (ca:=[]) hS Vx rfl rfl rfl rfl (bk.front _ _) ?_;clear hS hy;rintro _ m _ ⟨y,hD,rfl⟩ hS;simp only [bC,zC,zN]at hS;have hS:=(hS.aH (Pre:=MV b3 d (.slice A os.length c) (.slice B ts.length c2) os ts y) JC).drop;obtain ⟨j1,j2,j3,j4,j5,j6,j7,j8,j9,j10,j11,j12,j13⟩:=hD;have fin:∀(S2 S3 S8:List Nat) (vt' vd:Value) (T':List aK),bb T'→(∀c k,ak T' c k=ak (x.T++ts) c k)→∃x',x'={y with S2:=S2,vt:=vt',T:=T',S3:=S3,vd:=vd,D:=clean (hid T'),S8:=S8}∧Ke x x' os ts∧DI x' (n+1):=fun S2 S3 S8 vt' vd T' h1 h2=>
   ⟨_,rfl,⟨j3,j4,h2⟩,⟨(hF y ⟨j1,j2,j3,j4,j5,j6,j7,j8,j9,j10,j11,j12,j13⟩).2.2,j1,j2,j5,j13,j6,j7,j8,j9,j10,h1,hT T' h1 h2,rfl⟩⟩
  refine aa7 ?_;obtain ⟨q0,Uq⟩:=zP (decide (0<i));rw [←Uq];have Yz:y.D=clean (hid y.T):=by rw [j12,j11];exact i13
  have same:∀{m:World} {F:List az} {q:Bool},(∀c k,ak y.T c k=ak (x.T++ts) c k)→Tr m0 M0 X m (F++bC d y [])→∃H',((∃q',(.tuple #[.bool q,.int .i64 0]:Value)=.tuple #[.bool q',.int .i64 0])∧∃x',Ke x x' os ts∧DI x' (n+1)∧H'=bC d x' [])∧Tr m0 M0 X m H':=fun{m F q} h hS=>by
   obtain ⟨x',e,h1,h2⟩:=fin y.S2 y.S3 y.S8 y.vt y.vd y.T (by rw [j11];exact i11) h;refine ⟨_,⟨⟨_,rfl⟩,x',h1,h2,rfl⟩,?_⟩;rw [e,←Yz];exact Tr.drop (F:=F) (hS.perm xI)
  rcases xR ts.length with h0|h0
  ·rw [zV (show¬(ts.length:Int)>0 by omega)];refine ah ?_;have e0:ts=[]:=wO h0;exact QN.dW rfl rfl rfl ⟨_,rfl,same (fun c k=>by rw [e0,vI,j11]) (F:=[_,_,_,_]) hS⟩
  ·rw [zW (show(ts.length:Int)>0 by omega)];refine ah ?_;have Be:y.T.length≤4*n:=by rw [j11];exact i12
   refine ad8 ?_;refine RH.cM (Kb (MV b3 d (.slice A os.length c) (.slice B ts.length c2) os ts y) y.vt (.slice B ts.length c2) y.T ts (.own (show sw y.S2 y.vt y.T∈_ from JQ)) (.ro (show FL (.slice B ts.length c2) ts∈_ from JQ)) J9) ?_ (hs:=bk.self _);clear hS;rintro vj m _ ⟨T',Sj,IZ,rfl⟩ hS;rw [vI]at hS ⊢;obtain ⟨Aj,cj,rfl,_⟩:=Ev.Own.shape (show Ev.Own m Sj 122 4 vj _ _ from hS.head);refine ⟨an.ay fun _ h=>zO _ h,_,rfl,?_⟩;have VL:∀c k,ak T' c k=ak (x.T++ts) c k:=fun c k=>by rw [IZ.2.1,j11]
   have Nv:=hT T' IZ.1 VL;refine ah ?_;refine RL.cL (To (sw Sj (.slice Aj T'.length cj) T'::MV b3 d (.slice A os.length c) (.slice B ts.length c2) os ts y) (.slice Aj T'.length cj) y.vt T' y.T (.own (show sw Sj (.slice Aj T'.length cj) T'∈_ from zS ..)) (.own (show sw y.S2 y.vt y.T∈_ from JQ)) J9) fun m hS=>?_
   by_cases he:T'=y.T
   ·rw [zW he];refine ah ?_;exact QN.dW rfl rfl rfl ⟨_,rfl,same (by rw [←he];exact VL) (F:=[_,_,_,_,_]) hS⟩
   ·rw [zV he];refine ah ?_;refine RL.cM (HW (sw Sj (.slice Aj T'.length cj) T'::MV b3 d (.slice A os.length c) (.slice B ts.length c2) os ts y) (.slice Aj T'.length cj) T' (.own (show sw Sj (.slice Aj T'.length cj) T'∈_ from zS ..)) IZ.1 J9) ?_ (hs:=bk.self _);clear hS;obtain ⟨D',OU⟩:=zP (clean (hid T'));rw [←OU];rintro vh m _ ⟨Sh,rfl⟩ hS;rw [vI]at hS;have Ob:D'.length≤T'.length:=by rw [OU];exact wG (eM _) (iq _)
    obtain ⟨Ah,ch,rfl,_⟩:=Ev.Own.shape (show Ev.Own m Sh 167 3 vh _ _ from hS.head);refine aa7 ?_
    (try clear hS);intro m hS;refine ah ?_
    (try clear hS);intro m hS;refine ah ?_
    refine WP.MD [IS d {y with vt:=.slice Aj T'.length cj,vd:=.slice Ah D'.length ch}] hS JD rfl J7 ?_;refine aZ ?_;refine RH.cM (Pd y.S8 Sh y.mm y.nm (.slice Ah D'.length ch) D' J9) ?_;clear hS;rintro _ m _ ⟨S8,rfl⟩ hS;simp only [zC,zN]at hS ⊢;refine ⟨JD,_,rfl,?_⟩;refine ah ?_;obtain ⟨x',e,h1,h2⟩:=fin Sj Sh S8 (.slice Aj T'.length cj) (.slice Ah D'.length ch) T' IZ.1 VL;refine QN.dW rfl rfl rfl ⟨_,rfl,_,⟨⟨_,rfl⟩,x',h1,h2,rfl⟩,?_⟩;rw [e,←OU];dsimp only [bC];exact (hS.aH JC).drop
end Go.Proofs.YtgpgladbdoimdaaGreatDoor
