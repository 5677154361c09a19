/- Texts that belong together. -/
import Derived.Test.YtgpgladbdoimdaaGreatDoorMLawMV39
import Derived.Test.YtgpgladbdoimdaaGreatDoorMLawMV52
namespace Go.Proofs.YtgpgladbdoimdaaGreatDoor
open Go.ChangeShapes Go.WideShapes Go.ChangeAt Go.RowKit Go.Ev Go.Ids Go.SeqP
set_option maxRecDepth 20000
set_option maxHeartbeats 12000000
theorem Fz(v u:Value)(a b:List aK)(hl:(a++b).length≤5000):bu Tryz.prog 58 [v,u] [gh v a,gh u b] (fun r H=>∃L S,TF (a++b) L∧H=[aF S 122 4 r L.length (L.flatMap tC)]):=by
 intro m X hS;have h1:=Nat.mul_le_mul hl (show 2*(a++b).length≤2*5000 by omega);have h2:a.length+b.length≤5000:=by rwa [zY]at hl
 refine (Cu m v u a b (hS.bE (show gh v a∈_ from JQ)) (hS.bE (show gh u b∈_ from JQ)) J9 J9).mono ?_;rintro r m' ⟨L,hL,S,h1,h2⟩;exact ⟨_,⟨L,S,⟨hL.1,fun c k=>by rw [hL.2.1,ky]⟩,rfl⟩,Tr.drop (H:=[_]) (hS.made h1 h2)⟩
theorem D2(v:Value)(l:List aK)(hc:bb l)(hl:l.length≤5000):bu Tryz.prog 59 [v] [gh v l] (fun r H=>∃S,H=[aF S 167 3 r (clean (hid l)).length ((clean (hid l)).flatMap rC)]):=by
 intro m X hS;have hq:=Nat.mul_le_mul hl (show 2*l.length≤2*5000 by omega);refine (yl m v l (hS.bE (show gh v l∈_ from JQ)) J9).mono ?_;rintro r m' ⟨L,hL,S,h1,h2⟩;have:L=l:=de hL.1 hc fun c k=>by rw [hL.2.1,ky]
 subst this;exact ⟨_,⟨S,rfl⟩,Tr.drop (H:=[_]) (hS.made h1 h2)⟩
def rT(x:Rx)(T':List aK):Rx:={x with T:=T',D:=clean (hid T'),MH:=clean (hid T')}
def Cj(x:Rx)(os:List a6)(ts:List aK)(x':Rx):Prop:=
 ∃T',TF (x.T++ts) T'∧((x'=rT x T'∧∀o∈os,o.id.k+o.n≤bI x.K o.id.c+1)∨∃o,os=[o]∧o.id.k=bI x.K o.id.c+1∧kJ (rT x T') o x')
abbrev ZH(s:Nat)(x:Rx)(v:Ac)(F:List az):List az:=dO v.L x.L::Bd v.K x.K::gh v.T x.T::qk v.D x.D::dO v.Mk x.Mk::qk v.V x.V::dO v.W x.W::cQ s x.q::F
def TS(K:List bB)(o:a6):Prop:=o.id.k+o.n≤bI K o.id.c+1∨(o.id.k=bI K o.id.c+1∧∀i∈o.cY,1≤i.k∧i.k≤bI K i.c)
theorem o5(S:List Nat)(d:Nat)(x:Rx)(n:Nat)(hs:Mg x n)(hn:n≤190)(hW:x.W=[])(vo vt:Value)(os:List a6)(ts:List aK)(ho:os.length≤1)(hg:∀o∈os,Good o∧TS x.K o)(QG:ts.length≤4)
  (hT:∀T',TF (x.T++ts) T'→T'.length≤4*(n+1)):
  bu Tryz.prog 19 [pA d,.agg #[vo,vt]] [dO vo os,gh vt ts,cN S d x] (fun r H=>r=.int .i64 0∧∃S' x',Cj x os ts x'∧x'.W=[]∧H=[dO vo os,gh vt ts,cN S' d x']):=by
 intro m0 X hS;obtain ⟨M0,bR⟩:=zP (au [dO vo os,gh vt ts,cN S d x]);rw [←bR]at hS ⊢;obtain ⟨Ao,co,rfl,_,_,Wn⟩:=Sl.gY oC bP (hS.bE (show dO vo os∈_ from JQ)) J8;obtain ⟨At,ct,rfl,_,_,TT⟩:=Sl.gY tC xn (hS.bE (show gh vt ts∈_ from JQ)) J8;have hS:=hS.perm (xI (l₁:=[_,_]) (l₂:=[cN S d x]));obtain ⟨s,mm,⟨vL,vK,vT,vD,vMk,vV,vW⟩,hS⟩:=gr hS;obtain ⟨f1,f2,f3,f4,f5,f6,f7,f8,f9⟩:=hs;have hS:Tr m0 M0 X m0 (kf d s mm x ⟨vL,vK,vT,vD,vMk,vV,vW⟩ [dO (.slice Ao os.length co) os,gh (.slice At ts.length ct) ts]):=hS;obtain ⟨Aw,cw,US,hcw,_,_⟩:=Sl.gY oC bP (hS.bE (show dO vW x.W∈_ from JR)) J8;subst US;refine aP.zA Tryz.func19 ?_;refine ah ?_
 (try clear hS);intro b3 m hS;refine aa7 ?_
 rw [zV (show¬(os.length:Int)>16384 by omega)];refine ah ?_;rw [zV (show¬(ts.length:Int)>16384 by omega)];refine ah ?_;refine (WP.eo (X:=Nat) (fun i=>[(0,pA d),(3,pA b3),(5,.int .i64 i)])
  (fun i m'=>i≤os.length∧Tr m0 M0 X m' (ab b3 58 [.slice Ao os.length co,.slice At ts.length ct]::kf d s mm x ⟨vL,vK,vT,vD,vMk,vV,.slice Aw x.W.length cw⟩ [dO (.slice Ao os.length co) os,gh (.slice At ts.length ct) ts]))
  (fun i m'=>Tr m0 M0 X m' (ab b3 58 [.slice Ao os.length co,.slice At ts.length ct]::kf d s mm x ⟨vL,vK,vT,vD,vMk,vV,.slice Aw x.W.length cw⟩ [dO (.slice Ao os.length co) os,gh (.slice At ts.length ct) ts])) (fun i=>os.length-i) 0 0
  YC ⟨yI _,hS⟩ ?_ ?_)
 ·clear hS;rintro i m ⟨hi,hS⟩;refine ah ?_;rcases xA i os.length with aM|fW
  ·rw [zW (show(i:Int)<(os.length:Int) by omega)];obtain ⟨o,BL⟩:=zQ aM;obtain ⟨ad,rfl⟩:=Wn i o BL;obtain ⟨g,_⟩:=hg o (xU BL);refine ah ?_;refine RL.fg aa oC bP (hS.bE (show dO (.slice (some ad) os.length co) os∈_ from JR)) BL 0 (oC o) rfl rfl rfl rfl rfl rfl rfl rfl ?_;refine ah ?_;refine RL.cU (Gj o g) (fun m hS=>?_) (hs:=.nil);refine ai7 ?_;exact ag0
  ·rw [zV (show¬(i:Int)<(os.length:Int) by omega)];refine ah ?_;exact QN.du i YC hS
 ·clear hS;rintro i m hS;refine QN.bx ?_;refine ah ?_;refine ad8 ?_;refine RH.cM (Fz vT (.slice At ts.length ct) x.T ts Jl) ?_;clear hS;rintro vj m _ ⟨T',Sj,IZ,rfl⟩ hS;simp only [zC,zN]at hS ⊢;obtain ⟨Aj,cj,rfl,_⟩:=Ev.Own.shape (show Ev.Own m Sj 122 4 vj _ _ from hS.head);refine ⟨an.ay fun _ h=>zO _ h,_,rfl,?_⟩;refine aZ ?_
  (try clear hS);intro m hS
  refine ab9 ?_;have hS:=hS.freeze J8;have Nv:=hT T' IZ;have hS:=(hS.aH (Pre:=ab b3 58 [.slice Ao os.length co,.slice At ts.length ct]::kf d s mm {x with T:=T'} ⟨vL,vK,.slice Aj T'.length cj,vD,vMk,vV,.slice Aw x.W.length cw⟩ [dO (.slice Ao os.length co) os,gh (.slice At ts.length ct) ts]) JC).drop;refine ah ?_;refine RL.cM (D2 (.slice Aj T'.length cj) T' IZ.1 J9) ?_;clear hS;obtain ⟨D',OU⟩:=zP (clean (hid T'));rw [←OU];rintro vh m _ ⟨Sh,rfl⟩ hS;simp only [zC,zN]at hS ⊢;obtain ⟨Ah,ch,rfl,_⟩:=Ev.Own.shape (show Ev.Own m Sh 167 3 vh _ _ from hS.head);refine ⟨_,rfl,?_⟩;refine ah ?_
  (try clear hS);intro m hS
  have hS:=(hS.freeze J8).dup rfl;have hS:=(hS.aH (Pre:=qk (.slice Ah D'.length ch) D'::ab b3 58 [.slice Ao os.length co,.slice At ts.length ct]::kf d s mm {x with T:=T',D:=D'} ⟨vL,vK,.slice Aj T'.length cj,.slice Ah D'.length ch,vMk,vV,.slice Aw x.W.length cw⟩ [dO (.slice Ao os.length co) os,gh (.slice At ts.length ct) ts]) JC).drop;refine ah ?_;refine RL.cM (Di mm x.ML x.MH J9 J9) ?_;clear hS;rintro _ m _ ⟨m2,rfl,rfl⟩ hS;simp only [zC,zN]at hS;refine ⟨_,rfl,?_⟩;refine ah ?_
  (try clear hS);intro m hS;refine ah ?_
  obtain ⟨vl,vh,hS⟩:=qf hS;refine ad8 ?_
  (try clear hS);intro m hS
  refine ab9 ?_;have hS:=fN (hS.aH (Pre:=AG m2 vl (.slice Ah D'.length ch) x.ML D' (ab b3 58 [.slice Ao os.length co,.slice At ts.length ct]::ab d 50 [vL,vK,.slice Aj T'.length cj,.slice Ah D'.length ch,pA s,pA m2,vMk,vV,.slice Aw x.W.length cw]::ZH s {x with T:=T',D:=D'} ⟨vL,vK,.slice Aj T'.length cj,.slice Ah D'.length ch,vMk,vV,.slice Aw x.W.length cw⟩ [dO (.slice Ao os.length co) os,gh (.slice At ts.length ct) ts])) JC).drop;have hS:=(hS.aH (Pre:=ab b3 58 [.slice Ao os.length co,.slice At ts.length ct]::kf d s m2 {x with T:=T',D:=D',MH:=D'} ⟨vL,vK,.slice Aj T'.length cj,.slice Ah D'.length ch,vMk,vV,.slice Aw x.W.length cw⟩ [dO (.slice Ao os.length co) os,gh (.slice At ts.length ct) ts]) JC).drop;refine ah ?_;refine WP.dQ hS rfl J7 ?_;refine aZ ?_;refine RH.nP aa ai.calm 15 (A:=Aw) (lo:=0) (q:=0) (cap':=cw) rfl J7 rfl rfl rfl rfl rfl (by rw [hW];rfl) (by rw [hW];rfl) (yP _) (yI _) rfl ?_;refine aZ ?_;refine RH.one rfl J7 rfl ?_;have Mn:=hS.bE (show dO (.slice Ao os.length co) os∈_ from JR);refine RL.dx aa (hS.empty 55 22 Aw) (os.flatMap oC) (k:=os.length) rfl rfl rfl rfl rfl .head (Src.cS Mn) (gC _) (nO _) Jy (by show(0+os.length)*200≤_;omega) ?_;clear hS Mn;intro v10 m S10 hS;rw [yC,zU]at hS;obtain ⟨A10,c10,rfl,_⟩:=Ev.Own.shape (show Ev.Own m S10 55 22 v10 _ _ from hS.head);refine ⟨_,rfl,?_⟩;refine RL.N1 (RH.aD hS (an.ay fun _ h=>zO _ h) ?_);refine aZ ?_
  (try clear hS);intro m hS
  refine ab9 ?_;have hS:=hS.freeze J8;obtain ⟨x1,sN⟩:=zP ({x with T:=T',D:=D',MH:=D',W:=os}:Rx);obtain ⟨v1,TX⟩:=zP (⟨vL,vK,.slice Aj T'.length cj,.slice Ah D'.length ch,vMk,vV,.slice A10 os.length c10⟩:Ac);have hS:=(hS.aH (Pre:=ab b3 58 [.slice Ao os.length co,.slice At ts.length ct]::kf d s m2 {x with T:=T',D:=D',MH:=D',W:=os} ⟨vL,vK,.slice Aj T'.length cj,.slice Ah D'.length ch,vMk,vV,.slice A10 os.length c10⟩ [dO (.slice Ao os.length co) os,gh (.slice At ts.length ct) ts]) JC).drop;rw [←sN,←TX]at hS;have HA:x1.W=os:=by rw [sN]
  have ND:{x1 with W:=[]}=rT x T':=by rw [sN,OU,rT,hW]
  have Z8:D'.length≤T'.length:=by rw [OU];exact wG (eM _) (iq _)
  have qo:Mg x1 (n+1):=by
   rw [sN];exact ⟨by show x.L.length≤_;omega,by show x.K.length≤_;omega,Nv,by show D'.length≤_;omega,by show x.q.us.length≤_;omega,by show x.ML.length≤_;omega,by show D'.length≤_;omega,by show x.Mk.length≤_;omega,by show x.V.length≤_;omega⟩
  have UC:x1.K=x.K:=by rw [sN]
  have bo:∀{o y'},kJ x1 o y'→kJ (rT x T') o {y' with W:=[]}:=fun{o y'} h=>by
   obtain ⟨h1,h2,h3,h4,h5,h6,h7,h8,h9,_⟩:=h;rw [←ND];exact ⟨h1,h2,h3,h4,h5,h6,h7,h8,h9,rfl⟩
  obtain ⟨S1,hS⟩:=cR (F:=[dO (.slice Ao os.length co) os,gh (.slice At ts.length ct) ts]) hS.tail;obtain ⟨Fin,OA⟩:=zP (fun y=>(y=rT x T'∧∀o∈os,o.id.k+o.n≤bI x.K o.id.c+1)∨∃o,os=[o]∧o.id.k=bI x.K o.id.c+1∧kJ (rT x T') o y:Rx→Prop);refine QN.N1 ?_;refine ah ?_;clear f1 f2 f3 f4 f5 f6 f7 f8 f9 Nv;refine (WP.eo (X:=Bool×Rx×List Nat) (fun z=>[(0,pA d),(6,.bool z.1)])
   (fun z m'=>((z.1=true∧z.2.1=x1)∨(z.2.1.W=[]∧Fin z.2.1))∧Tr m0 M0 X m' (cN z.2.2 d z.2.1::[dO (.slice Ao os.length co) os,gh (.slice At ts.length ct) ts]))
   (fun z m'=>(z.2.1.W=[]∧Fin z.2.1)∧Tr m0 M0 X m' (cN z.2.2 d z.2.1::[dO (.slice Ao os.length co) os,gh (.slice At ts.length ct) ts])) (fun z=>(if z.1 then 1 else 0)+z.2.1.W.length) (true,x1,S1) 2
   YC ⟨.inl ⟨rfl,rfl⟩,hS⟩ ?_ ?_)
  ·clear hS;rintro ⟨b,y,S⟩ m ⟨hz,hS⟩;dsimp only at hz hS ⊢;refine ah ?_;cases b with
   |false=>
    refine ah ?_;have hz:y.W=[]∧Fin y:=by
     rcases hz with⟨h,_⟩|h
     ·cases h
     ·exact h
    exact QN.du (false,y,S) YC ⟨hz,hS⟩
   |true=>
    have EK:(y.W=[]∧Fin y)∨∃o,os=[o]∧y=x1:=by
     rcases hz with⟨_,h⟩|h
     ·match os,ho with
      |[],_=>exact .inl ⟨by rw [h,HA],by rw [OA];exact .inl ⟨by rw [←ND,h,←show x1.W=[] from HA],fun _ hh=>by cases hh⟩⟩
      |[o],_=>exact .inr ⟨o,rfl,h⟩
     ·exact .inl h
    have hWl:y.W.length≤1:=by
     rcases EK with⟨h,_⟩|⟨o,h1,h2⟩
     ·rw [h];exact yI _
     ·rw [h2,HA,h1];exact yP _
    refine ah ?_;refine (WP.eo (X:=Nat×Bool×Rx×List Nat) (fun z=>[(0,pA d),(6,.bool z.2.1),(7,.slice none 0 0),(8,.int .i64 z.1)])
     (fun z m'=>(z.1≤y.W.length∧(z.1=0→z.2.1=false∧z.2.2.1=y)∧(0<z.1→∃o,os=[o]∧y=x1∧((z.2.1=false∧z.2.2.1=y∧o.id.k+o.n≤bI x.K o.id.c+1)∨(z.2.1=true∧o.id.k=bI x.K o.id.c+1∧kJ x1 o z.2.2.1))))∧Tr m0 M0 X m' (cN z.2.2.2 d z.2.2.1::[dO (.slice Ao os.length co) os,gh (.slice At ts.length ct) ts]))
     (fun z m'=>(z.1=y.W.length∧(z.1=0→z.2.1=false∧z.2.2.1=y)∧(0<z.1→∃o,os=[o]∧y=x1∧((z.2.1=false∧z.2.2.1=y∧o.id.k+o.n≤bI x.K o.id.c+1)∨(z.2.1=true∧o.id.k=bI x.K o.id.c+1∧kJ x1 o z.2.2.1))))∧Tr m0 M0 X m' (cN z.2.2.2 d z.2.2.1::[dO (.slice Ao os.length co) os,gh (.slice At ts.length ct) ts])) (fun z=>y.W.length-z.1) (0,false,y,S) 4
     YC ⟨⟨yI _,fun _=>⟨rfl,rfl⟩,fun h=>absurd h (Nat.lt_irrefl _)⟩,hS⟩ ?_ ?_)
    ·clear hS;rintro ⟨i,b,y2,S2⟩ m ⟨⟨h1,h2,h3⟩,hS⟩;dsimp only at h1 h2 h3 hS ⊢;have Vb:y2.W.length=y.W.length:=by
      rcases xR i with h|h
      ·rw [(h2 h).2]
      ·obtain ⟨o,IU,Hj,h⟩:=h3 h;rcases h with⟨_,h,_⟩|⟨_,_,h⟩
       ·rw [h]
       ·rw [h.W,Hj]
     obtain ⟨s,mm,⟨wL,wK,wT,wD,wMk,wV,wW⟩,hS⟩:=gr hS;obtain ⟨B,cB,US,W8,_,hB⟩:=Sl.gY oC bP (hS.bE (show dO wW y2.W∈_ from JR)) J8;subst US;refine ah ?_;rw [Vb];rcases xA i y.W.length with aM|fW
     ·have uj:i=0:=by omega
      subst uj;obtain ⟨rfl,rfl⟩:=h2 rfl;obtain ⟨o,IU,Hj⟩:∃o,os=[o]∧y2=x1:=by
       rcases EK with⟨h,_⟩|h
       ·rw [h]at aM;cases aM
       ·exact h
      have YO:y2.W=[o]:=by rw [Hj,HA,IU]
      have ho:y2.W[0]?=some o:=by rw [YO];rfl
      obtain ⟨ad,rfl⟩:=hB 0 o ho;obtain ⟨g,Ym⟩:=hg o (by rw [IU];exact zS ..);rw [zW (show((0:Nat):Int)<(y2.W.length:Int) by omega)];have Uw:y2.K=x.K:=by rw [Hj,UC]
      have Xo:y2.K.length≤1000000:=by rw [Hj];exact wG qo.K J9
      have DT:IntKind.i64.wrap (((0:Nat):Int)+1)=((1:Nat):Int):=by decide
      refine ah ?_;refine RL.fg aa oC bP (hS.bE (show dO (.slice (some ad) y2.W.length cB) y2.W∈_ from JR)) ho 0 (oC o) rfl rfl rfl rfl rfl rfl rfl rfl ?_;refine ah ?_;rcases Ym with hd|⟨hk,hn⟩
      ·refine RL.cL (uv (kf d s mm y2 ⟨wL,wK,wT,wD,wMk,wV,.slice (some ad) y2.W.length cB⟩ [dO (.slice Ao os.length co) os,gh (.slice At ts.length ct) ts]) d ⟨wL,wK,wT,wD,wMk,wV,.slice (some ad) y2.W.length cB⟩ (pA s) (pA mm) y2.K JQ JQ Xo o g (by rw [Uw];exact hd)) fun m hS=>?_
       refine ah ?_
       (try clear hS);intro b9 m hS;refine aa7 ?_
       (try clear hS);intro m hS;refine ah ?_
       rw [DT];obtain ⟨S3,hS⟩:=cR hS.tail;exact QN.round (1,false,y2,S3) YC ⟨⟨J0,fun h=>(by cases h),fun _=>⟨o,IU,Hj,.inl ⟨rfl,rfl,hd⟩⟩⟩,hS⟩ J0
      ·refine RL.cL (BW (kf d s mm y2 ⟨wL,wK,wT,wD,wMk,wV,.slice (some ad) y2.W.length cB⟩ [dO (.slice Ao os.length co) os,gh (.slice At ts.length ct) ts]) d ⟨wL,wK,wT,wD,wMk,wV,.slice (some ad) y2.W.length cB⟩ (pA s) (pA mm) y2.K JQ JQ Xo o g (by rw [Uw];exact hk) (by rw [Uw];exact hn)) fun m hS=>?_
       refine ah ?_
       (try clear hS);intro b9 m hS;refine aa7 ?_
       (try clear hS);intro m hS;refine ah ?_
       have hS:=hS.perm (xI (l₁:=[_]) (l₂:=kf d s mm y2 ⟨wL,wK,wT,wD,wMk,wV,.slice (some ad) y2.W.length cB⟩ [dO (.slice Ao os.length co) os,gh (.slice At ts.length ct) ts]));obtain ⟨S3,hS⟩:=cR (F:=[dO (.slice Ao os.length co) os,gh (.slice At ts.length ct) ts,_]) hS;refine RL.cM (HL S3 d y2 (n+1) (by rw [Hj];exact qo) J9 o g) ?_;clear hS;rintro _ m _ ⟨S4,x',iw,rfl⟩ hS;simp only [zC,zN]at hS;refine ⟨_,rfl,?_⟩;refine ah ?_;rw [DT];have hS:=(hS.aH (Pre:=[cN S4 d x',dO (.slice Ao os.length co) os,gh (.slice At ts.length ct) ts]) JC).drop;exact QN.round (1,true,x',S4) YC ⟨⟨J0,fun h=>(by cases h),fun _=>⟨o,IU,Hj,.inr ⟨rfl,hk,by rw [←Hj];exact iw⟩⟩⟩,hS⟩ J0
     ·rw [zV (show¬(i:Int)<(y.W.length:Int) by omega)];refine ah ?_;obtain ⟨S3,hS⟩:=cR hS;exact QN.du (i,b,y2,S3) YC ⟨⟨J9,h2,h3⟩,hS⟩
    ·clear hS;rintro ⟨i,b,y2,S2⟩ m ⟨⟨h1,h2,h3⟩,hS⟩;dsimp only at h1 h2 h3 hS ⊢;refine QN.bx ?_;obtain ⟨s,mm,⟨wL,wK,wT,wD,wMk,wV,wW⟩,hS⟩:=gr hS;refine ah ?_
     (try clear hS);intro m hS;refine ah ?_
     have hS:=hS.gV 22 J8;have hS:=(hS.aH (Pre:=kf d s mm {y2 with W:=[]} ⟨wL,wK,wT,wD,wMk,wV,.slice none 0 0⟩ [dO (.slice Ao os.length co) os,gh (.slice At ts.length ct) ts]) JC).drop;obtain ⟨S3,hS⟩:=cR hS;refine QN.round (b,{y2 with W:=[]},S3) YC ⟨.inr ⟨rfl,?_⟩,hS⟩ ?_
     ·dsimp only;rcases xR i with h|h
      ·obtain ⟨_,rfl⟩:=h2 h;rcases EK with⟨h4,h5⟩|⟨o,h4,h5⟩
       ·rw [←h4];exact h5
       ·rw [h5,HA,h4,h]at h1;cases h1
      ·obtain ⟨o,IU,Hj,h⟩:=h3 h;rw [OA];rcases h with⟨_,h,h6⟩|⟨_,h7,h⟩
       ·refine .inl ⟨by rw [h,Hj,ND],fun o' Gu=>?_⟩;rw [IU,zT]at Gu;rw [Gu];exact h6
       ·exact .inr ⟨o,IU,h7,bo h⟩
     ·dsimp only;rcases xR i with h|h
      ·rw [(h2 h).1];simp;omega
      ·simp only [xE];cases b<;>simp<;>omega
  ·clear hS;rintro ⟨b,y,S⟩ m ⟨⟨hw,hf⟩,hS⟩;dsimp only at hw hf hS ⊢;refine QN.bx ?_;refine ah ?_;have hS:=hS.perm (xI (l₁:=[cN S d y]) (l₂:=[dO (.slice Ao os.length co) os,gh (.slice At ts.length ct) ts]));rw [OA]at hf;exact QN.aj rfl rfl ⟨_,rfl,_,⟨rfl,S,y,⟨T',IZ,hf⟩,hw,rfl⟩,hS⟩
end Go.Proofs.YtgpgladbdoimdaaGreatDoor
