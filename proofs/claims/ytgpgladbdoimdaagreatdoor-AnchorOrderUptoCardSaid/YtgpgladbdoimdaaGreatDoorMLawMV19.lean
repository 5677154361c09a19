/- Texts that belong together. -/
import Derived.Test.YtgpgladbdoimdaaGreatDoorMLawMV13
import Derived.Test.YtgpgladbdoimdaaGreatDoorMLawMV17
namespace Go.Proofs.YtgpgladbdoimdaaGreatDoor
open Go.RowKit Go.Ev Go.Ids
set_option maxRecDepth 20000
set_option maxHeartbeats 1000000
theorem O4(l:List UInt8):ee Tryz.prog 257 [.string (str l),.string (str l)] [] (.int .i64 0):=by
 have hb:ee Tryz.prog 278 [.string (str l),.string (str l)] [] (.int .i64 0):=by
  intro m0 X hS;refine aP.zA Tryz.func278 ?_;refine go ?_;refine RL.ext (v:=.int .i64 0) (ex:=Extern.BytealgCompare.compare) Tryz.func286 rfl rfl rfl rfl rfl rfl rfl (fun w=>?_) rfl ?_
  ·have:Extern.BytealgCompare.cmp (str l) (str l)=0:=by
    unfold Extern.BytealgCompare.cmp;have:(List.range (min (str l).size (str l).size)).find? (fun i=>(str l)[i]!!=(str l)[i]!)=none:=by simp
    rw [this];simp
   show Sem.run _ (do pure (goInt (Extern.BytealgCompare.cmp (←Extern.Bytes.bytesOf (.string (str l))) (←Extern.Bytes.bytesOf (.string (str l)))))) w=_;simp [Extern.Bytes.bytesOf,this,goInt]
  exact ac4
 intro m0 X hS;refine aP.zA Tryz.func257 ?_;refine go ?_;refine zJ hb (fun m hS=>?_);exact ac4
theorem Ol:ee Tryz.prog 276 [.float .f64 0,.float .f64 0] [] (.int .i64 0):=by
 have hn:=Si 0;rw [qC]at hn;have h0:FloatKind.f64.format.order 0 0=some .eq:=by decide+kernel
 intro m0 X hS;refine aP.zA Tryz.func276 ?_;refine go ?_;refine zJ hn (fun m hS=>?_);refine go ?_;refine zJ hn (fun m hS=>?_);refine go ?_;rw [h0];exact ac4
theorem FR(f:Nat):ee Tryz.prog 256 [.float .f64 f,.float .f64 f] [] (.int .i64 0):=by
 intro m0 X hS;obtain ⟨r,hr⟩:∃r,jX f=r:=⟨_,rfl⟩;have Dz:=N4 f;have Md:=Ey f;have h1:(r.1=1∧r.2=0)∨r.1=0:=by rw [←hr];unfold jX;split;simp;split<;>simp
 rw [hr]at Dz Md;obtain ⟨r1,r2⟩:=r;refine aP.zA Tryz.func256 ?_;refine go ?_;refine zJ Dz (fun m hS=>?_);refine go ?_;refine zJ Dz (fun m hS=>?_);refine go ?_;rw [bne_self_eq_false];refine go ?_;rcases h1 with⟨h1,h2⟩|h1
 ·obtain rfl:r1=1:=h1;obtain rfl:r2=0:=h2;refine go ?_;refine zJ Ol (fun m hS=>?_);exact ac4
 ·obtain rfl:r1=0:=h1;have ho:=Md YA;refine go ?_;rw [ho];refine go ?_;rw [show FloatKind.f64.format.order (0,r2).snd (0,r2).snd=some .eq from ho];refine go ?_;cases h3:(FloatKind.f64.format.order f 0==some .eq)with
  |false=>
   exact ac4
  |true=>
   refine go ?_;rw [h3];refine go ?_;refine zJ (Bq f) (fun m hS=>?_);refine go ?_;refine zJ (Bq f) (fun m hS=>?_);cases Lj f<;>
   ·exact ac4
theorem Ri(S:List Nat)(v:Value):bu Tryz.prog 172 [v] [aF S 3 1 v 4 [.int .i64 0,.int .i64 0,.int .i64 0,.int .i64 0]] (fun r H=>r=.int .i64 0∧H=[]):=by
 intro m0 X hS;obtain ⟨g,c,rfl,ZE,n9,_⟩:=hS.dG (zT.2 rfl) J8;have hR:=hS.aW (zT.2 rfl);refine aP.zA Tryz.func172 ?_;refine go ?_;refine (WP.eo (X:=Nat) (fun i=>[(3,.int .i64 0),(6,.slice (some ⟨g,0,none⟩) 4 c),(7,.int .i64 4),(8,.int .i64 i)]) (fun i m'=>i≤4∧Tr m0 (au [aF S 3 1 (.slice (some ⟨g,0,none⟩) 4 c) 4 [.int .i64 0,.int .i64 0,.int .i64 0,.int .i64 0]]) X m' [aF S 3 1 (.slice (some ⟨g,0,none⟩) 4 c) 4 [.int .i64 0,.int .i64 0,.int .i64 0,.int .i64 0]])
  (fun _ m'=>Tr m0 (au [aF S 3 1 (.slice (some ⟨g,0,none⟩) 4 c) 4 [.int .i64 0,.int .i64 0,.int .i64 0,.int .i64 0]]) X m' [aF S 3 1 (.slice (some ⟨g,0,none⟩) 4 c) 4 [.int .i64 0,.int .i64 0,.int .i64 0,.int .i64 0]]) (fun i=>4-i) 0 0 YC ⟨J9,hS⟩ ?_ ?_)
 ·clear hS hR;rintro i m ⟨hi,hS⟩;dsimp only at hi hS ⊢;have hR:=hS.aW (zT.2 rfl);refine go ?_;rcases tL hi with rfl|mN
  ·refine go ?_;exact WP.exit (QN.tx (QN.tx (QN.du 4 YC hS)))
  ·have hd:decide ((i:Int)<4)=true:=zW J9;have hx:([.int .i64 0,.int .i64 0,.int .i64 0,.int .i64 0]:List Value)[i*1]?=some (.int .i64 0):=by
    have:i=0∨i=1∨i=2∨i=3:=by omega
    rcases this with rfl|rfl|rfl|rfl<;>rfl
   rw [hd];refine go ?_;refine RL.GX aa hR hx rfl rfl rfl rfl rfl rfl ?_;refine go ?_;have hw:IntKind.i64.wrap ((i:Int)+1)=((i+1:Nat):Int):=by rw [ag _ J9 J9];omega
   exact ai4
 ·clear hS hR;rintro _ m hS;refine QN.bx ?_;refine go ?_;exact ab6
theorem OY(v:Vl):ee Tryz.prog 224 [vV v,vV v] [] (.int .i64 0):=by
 intro m0 X hS;refine aP.zA Tryz.func224 ?_;refine aa5 ?_;intro b1 m hS;refine ag1 ?_;intro b2 m hS;refine RH.bU (fi:=[]) (ca:=[]) hS (Pn v.k) rfl J7 rfl rfl rfl rfl rfl JB (an.self _) rfl (fun m hS=>?_);refine go ?_;refine RH.bU (fi:=[]) (ca:=[]) hS (PA v.n) rfl J7 rfl rfl rfl rfl rfl JB (an.self _) rfl (fun m hS=>?_);refine go ?_;refine RH.bU (fi:=[]) (ca:=[]) hS (FR v.f) rfl J7 rfl rfl rfl rfl rfl JB (an.self _) rfl (fun m hS=>?_);refine go ?_;refine RH.bU (fi:=[]) (ca:=[]) hS (O4 v.s) rfl J7 rfl rfl rfl rfl rfl JB (an.self _) rfl (fun m hS=>?_);refine go ?_;refine ab2 ?_;refine RL.aA aa hS [.tmp 9,.tmp 14,.tmp 19,.tmp 24] [.int .i64 0,.int .i64 0,.int .i64 0,.int .i64 0] rfl rfl rfl rfl rfl rfl (by intro u hu;simp only [yH,uT,uU]at hu;rcases hu with rfl|rfl|rfl|rfl<;>rfl) rfl rfl rfl ?_;clear hS;intro b' m hS;refine aa1 ?_;refine RL.N1 (RH.aD hS (.more _ (an.self _)) ?_);refine zL (Ri [b'] (.slice (some ⟨b',0,none⟩) 4 4)) ?_;clear hS;rintro _ m _ ⟨rfl,rfl⟩ hS;simp only [yC]at hS;refine ⟨an.self _,_,rfl,?_⟩;exact ae7
theorem LA(v:Vl):ee Tryz.prog 196 [vV v,vV v] [] (.bool true):=by
 intro m0 X hS;refine aP.zA Tryz.func196 ?_;refine aa5 ?_;intro b1 m hS;refine ag1 ?_;intro b2 m hS;refine zJ (OY v) (fun m hS=>?_);exact ae7
theorem vr{m:World}{M:List Nat}{A:Option Addr}{n c:Nat}{l:List Nat}(h:Sl m M 1 (.slice A n c) (mu l))(k:Nat)(hk:k<l.length):∃ad,A=some ad∧m.cell? (ad.add (k*1))=some (.int .u64 l[k]):=by
 obtain ⟨hl,_⟩:=Sl.len h;rw [Oz]at hl;obtain ⟨ad,rfl,_,hc⟩:=Sl.addr h J9;refine ⟨ad,rfl,?_⟩;rw [uO];exact hc _ _ (xo l k hk)
theorem Fi{m:World}{M:List Nat}{ad:Addr}{n c:Nat}{l:List Nat}(h:Sl m M 1 (.slice (some ad) n c) (mu l))(k:Nat)(hk:k<l.length):m.cell? (ad.add (k*1))=some (.int .u64 l[k]):=by
 obtain ⟨_,h1,h2⟩:=vr h k hk;cases h1;exact h2
def DR(rs than L:List aK):Prop:=bb L∧(∀c k,ak L c k=cK rs than c k)∧L.length≤rs.length*(2*(rs.length+than.length))
theorem Cp(rs than:List aK)(c:Nat)(R:List aK)(M:List Nat)(k:Nat)(h:k+1<M.length):dN rs than c R (M.drop k)=dN rs than c (jV rs than R c M[k] M[k+1]) (M.drop (k+1)):=by
 rw [tI (show k<M.length by omega),tI h];rfl
theorem EI(rs than:List aK)(c:Nat)(R:List aK)(M:List Nat)(k:Nat)(h:¬k+1<M.length):dN rs than c R (M.drop k)=R:=by
 have h1:(M.drop k).length≤1:=by rw [zZ];omega
 match M.drop k,h1 with
 |[],_=>rfl
 |[_],_=>rfl
theorem HT(rs than R:List aK)(c a b:Nat):(jV rs than R c a b).length≤R.length+1:=by
 unfold jV
 split
 ·omega
 ·exact GN _ _
def jn(R:List aK)(x:aK):Bool:=match R with
 |y::_=>decide (y.c=x.c)&&(decide (y.t=x.f)&&decide (y.n=x.n))
 |[]=>false
theorem Kj{R:List aK}{x:aK}(h:jn R x=true):∃y r,R=y::r∧tj R x={y with t:=x.t}::r:=by
 cases R with
 |nil=>cases h
 |cons y r=>
  simp only [jn,wR,vY]at h;exact ⟨y,r,rfl,by rw [ik,yS h]⟩
theorem FI{R:List aK}{x:aK}(h:jn R x=false):tj R x=x::R:=by
 cases R with
 |nil=>rfl
 |cons y r=>
  rw [ik,zX];intro hh;rw [show jn (y::r) x=true by simp [jn,hh]]at h;cases h
structure Qp(rs than:List aK)(cs:List Nat)(W i:Nat)(R:List aK):Prop where
 canon:ew R
 told:∀c k,ak R c k=if c∈cs.take i then cK rs than c k else 0
 behind:∀y∈R,∀c∈cs.drop i,y.c<c
 len:R.length≤i*W
theorem Qp.next{rs than:List aK}{cs M:List Nat}{W i:Nat}{R:List aK}(h:Qp rs than cs W i R)(hi:i<cs.length)(hs:cs.Pairwise (·<·))(hc:1≤cs[i]∧cs[i]≤9007199254740991)(hM:qj rs than cs[i] M)
  (hl:(dN rs than cs[i] R M).length≤R.length+W):Qp rs than cs W (i+1) (dN rs than cs[i] R M):=by
 obtain ⟨p1,p2,p3⟩:=AU hc hM h.canon (fun y hy=>h.behind y hy _ (by rw [tI hi];exact zS ..));refine ⟨p1,fun c k=>?_,fun y hy c hc=>?_,?_⟩
 ·rw [p2,h.told,vN hi]
  by_cases h1:cs[i]=c
  ·rw [yS h1,yS (yX _ (by simp [h1]))]
   split<;>omega
  ·rw [zX h1]
   by_cases h2:c∈cs.take i
   ·rw [yS h2,yS (yW _ h2)];omega
   ·rw [zX h2,zX (fun hh=>(yL.1 hh).elim h2 (fun h3=>h1 (by simpa using h3:c=cs[i]).symm))];omega
 ·have h1:=p3 y hy;have h2:cs[i]<c:=by
   have:=xJ.1 hs;obtain ⟨j,hj,rfl⟩:=xG.1 hc;rw [zZ]at hj;rw [List.getElem_drop];exact this i (i+1+j) hi J9 J9
  omega
 ·have:=h.len;rw [xQ];omega
theorem HG{rs than:List aK}{c:Nat}{M:List Nat}(hp:M.Pairwise (·<·))(hM:∀z,z∈M↔BB (rs++than) c z):qj rs than c M:=by
 refine ⟨hp,fun z hz=>?_,fun x hx h1 h2=>⟨(hM _).2 ⟨x,hx,h1,h2,.inl rfl⟩,(hM _).2 ⟨x,hx,h1,h2,.inr rfl⟩⟩⟩;obtain ⟨x,_,h1,_,h3⟩:=(hM z).1 hz;have:=aT.1 h1;rcases h3 with h3|h3<;>omega
set_option maxHeartbeats 1000000 in
theorem Ca(m:World)(v u:Value)(rs than:List aK)(h:Ts m [] v rs)(h':Ts m [] u than)(Qj:rs.length+than.length<100000000)(hl:rs.length*(2*(rs.length+than.length))<100000000):
  dg Tryz.prog 101 [v,u] m fun r m'=>∃L,DR rs than L∧nF m r L m':=by
 obtain ⟨A,cA,rfl,_,_⟩:=h.shape;obtain ⟨B,cB,rfl,_,_⟩:=h'.shape;refine aP.zA Tryz.func101 ?_;refine af5 ?_;refine ab3 ?_;refine zM (Ef m _ rs h J9) ?_;rintro vc m1 ⟨cs,Sc,WK,T2,OM,TH,TG⟩;refine aa1 ?_;obtain ⟨AC,cC,rfl,_⟩:=WK.shape;have Xj:Sl m1 [] 1 (.slice AC cs.length cC) (mu cs):=WK.sl YA
 replace h:=h.bQ T2.1
 replace h':=h'.bQ T2.1
 have dd:=T2.1;clear WK T2;have Y0:∀c∈cs,1≤c∧c≤9007199254740991:=fun c hc=>by
  obtain ⟨x,_,h1,h2⟩:=(TH c).1 hc;have:=aT.1 h1;omega
 refine aa0 ?_;refine aa0 ?_;generalize hW:2*(rs.length+than.length)=W at hl;refine (WP.loop (X:=Nat×Value×List Nat×List aK) (fun q=>[(0,.slice A rs.length cA),(1,.slice B than.length cB),(5,q.2.1),(6,.slice AC cs.length cC),(7,.int .i64 q.1)])
  (fun q m'=>q.1≤cs.length∧Ev.Own m' q.2.2.1 122 4 q.2.1 q.2.2.2.length (q.2.2.2.reverse.flatMap tC)∧ek m1 q.2.2.1 m'∧Qp rs than cs W q.1 q.2.2.2) (fun q=>cs.length-q.1) (0,.slice none 0 0,[],[])
  YC ⟨YA,Own.empty _ _ _ _,⟨Ext.refl _ _,bp.nil _ _⟩,⟨⟨(fun _ hh=>by cases hh),List.Pairwise.nil⟩,(fun c k=>by simp [ak]),(fun _ hh=>by cases hh),YA⟩⟩ ?_)
 rintro ⟨i,ov,S,R⟩ m2 ⟨hi,hO,hN,hI⟩;simp only at hi hO hN hI;refine aa8 ?_;refine WP.cond rfl (fun hc=>?_) (fun hc=>?_)
 ·replace hc:i<cs.length:=by have:=xS hc;simp only at this;omega
  obtain ⟨adc,rfl,_⟩:=vr Xj i hc;have hiW:i*W+W≤rs.length*W:=by rw [←xQ];exact wP _ J9
  have hRl:=hI.len;obtain ⟨c,Xh⟩:∃c,cs[i]=c:=⟨_,rfl⟩;have n9:∀m',Ext m1 [] m'→m'.cell? (adc.add (i*1))=some (.int .u64 c):=fun m' hE=>by
   rw [←Xh];exact Fi (Sl.ext Xj hE (M':=[]) YA J9) i hc
  refine WP.skip (YJ ?_);refine WP.S1 ?_;refine WP.B1 ?_;refine WP.S1 ?_;have T3:Ts m2 [] (.slice A rs.length cA) rs:=h.bQ hN.1;have pX:Ts m2 [] (.slice B than.length cB) than:=h'.bQ hN.1;refine WP.dI (fun m'=>Ext m2 [] m') [] J7 (Ext.refl _ _) JJ (fun hQ=>?_);refine RH.pure aa hQ [0,2,4,5] J7 rfl ?_;refine RH.indexAddr aa hQ 6 (k:=i) rfl J7 rfl rfl rfl rfl rfl rfl rfl hc rfl ?_;refine RH.load aa hQ 7 (fun m' bm=>n9 m' (hN.1.trans bm YA)) rfl J7 rfl rfl rfl rfl ?_;refine RH.only 1 rfl J7 (fun _=>?_);have Ma:Sl m2 [] 4 (.slice A rs.length cA) (rs.flatMap tC):=T3;refine RL.append aa (Own.empty _ _ _ _) (rs.flatMap tC) (Src.cS Ma) rfl rfl rfl rfl rfl (eu rs) (lK rs) Jy (by show(0+_)*32≤_;omega) ?_;intro v3 m3 S3 km eN Lh;refine ⟨_,rfl,RL.N1 (RH.cont eN ?_)⟩;have Mm:Sl m3 [] 4 (.slice B than.length cB) (than.flatMap tC):=pX.bQ eN;have fG:ek m2 S3 m3:=⟨eN,Lh⟩;refine RH.only 3 rfl J7 (fun _=>?_);refine RL.append aa km (than.flatMap tC) (Src.cS Mm) rfl rfl rfl rfl rfl (eu than) (lK than) Jy (by show(0+_+_)*32≤_;omega) ?_;intro v4 m4 S4 gl eQ xx;have Lz:Ext m2 [] m4:=eN.trans eQ (fun k hk=>.inr (fG.ge k hk));refine ⟨_,rfl,RL.N1 (RH.cont Lz ?_)⟩;have Qk:Ts m4 [] v4 (rs++than):=by
   have h9:=gl.sl (M:=[]) YA;rw [yC,ny]at h9;exact h9
  refine RH.only 8 rfl J7 (fun _=>?_);refine zM (KV m4 v4 _ c Qk Jl) ?_;rintro ve m5 ⟨M,Se,VS,VZ,hse,QP,UJ⟩;have sS:Ext m2 [] m5:=Lz.trans VZ.1 YA;rw [zY]at UJ;refine ⟨_,rfl,RL.N1 (RH.cont sS ?_)⟩;refine RH.pure aa hQ [9] J7 rfl ?_;refine RH.done J7 (fun _=>?_);refine YJ ?_;obtain ⟨AE,cE,rfl,_⟩:=VS.shape;have EK:∀k∈Se,k∉S:=fun k hk hh=>by
   have h1:=VZ.ge k hk;have h2:=hO.lt k hh;have h3:=Lz.size;omega
  have QF:Sl m5 S 1 (.slice AE M.length cE) (mu M):=VS.sl EK;have gZ:=hO.ext sS YA;have iS:ek m1 S m5:=⟨hN.1.trans sS YA,hN.2⟩;have Z7:qj rs than c M:=HG hse QP;clear km eN Lh Mm fG gl eQ xx Qk VS VZ EK hO hN Ma T3 pX Lz sS;refine YG ?_;refine RL.A1 aa rfl ?_;refine RL.N1 (YE ?_);refine (WP.loop (X:=Nat×Value×List Nat×List aK) (fun q=>[(0,.slice A rs.length cA),(1,.slice B than.length cB),(5,q.2.1),(6,.slice (some adc) cs.length cC),(7,.int .i64 i),(8,.slice AE M.length cE),(9,.int .i64 q.1)])
   (fun q m'=>q.1≤M.length∧Ev.Own m' q.2.2.1 122 4 q.2.1 q.2.2.2.length (q.2.2.2.reverse.flatMap tC)∧ek m1 q.2.2.1 m'∧Sl m' q.2.2.1 1 (.slice AE M.length cE) (mu M)∧dN rs than c q.2.2.2 (M.drop q.1)=dN rs than c R M∧q.2.2.2.length≤R.length+q.1) (fun q=>M.length-q.1) (0,ov,S,R)
   YC ⟨YA,gZ,iS,QF,YA,YA⟩ ?_)
  clear gZ iS QF;rintro ⟨k,ow,S,Rk⟩ m2 ⟨hk,hO,hN,QE,hP,zp⟩;simp only at hk hO hN QE hP zp;refine YG ?_;refine ab8 ?_;refine RL.eqv (v':=.int .i64 ((k+1:Nat):Int)) (xZ _ Jb) ?_;refine aa0 ?_;refine WP.cond rfl (fun mr=>?_) (fun mr=>?_)
  ·replace mr:k+1<M.length:=by have:=xS mr;omega
   have iw:=Cp rs than c Rk M k mr;have zo:=HT rs than Rk c M[k] M[k+1];obtain ⟨ade,rfl,_⟩:=vr QE k J9;obtain ⟨a,XF⟩:∃a,M[k]=a:=⟨_,rfl⟩;obtain ⟨b,W5⟩:∃b,M[k+1]=b:=⟨_,rfl⟩;have UD:∀{m' S'},Sl m' S' 1 (.slice (some ade) M.length cE) (mu M)→m'.cell? (ade.add (k*1))=some (.int .u64 a):=fun hs=>by rw [←XF];exact Fi hs k J9
   have PQ:∀{m' S'},Sl m' S' 1 (.slice (some ade) M.length cE) (mu M)→m'.cell? (ade.add ((k+1)*1))=some (.int .u64 b):=fun hs=>by rw [←W5];exact Fi hs (k+1) mr
   rw [XF,W5]at iw zo;refine WP.skip (YJ ?_);refine WP.S1 ?_;refine WP.B1 ?_;refine WP.S1 ?_;refine WP.dI (fun m'=>Ext m2 [] m') [] J7 (Ext.refl _ _) JJ (fun hQ=>?_);refine ae5 ?_;refine RH.load aa hQ 3 (fun m' bm=>n9 m' (hN.1.trans bm YA)) rfl J7 rfl rfl rfl rfl ?_;refine RH.pure aa hQ [4,5] J7 rfl ?_;refine RH.indexAddr aa hQ 6 (k:=k) rfl J7 rfl rfl rfl rfl rfl rfl rfl J9 rfl ?_;refine RH.load aa hQ 7 (fun m' bm=>UD (QE.ext (bm.mono YA) (M':=S) (fun k hk=>.inl hk) J9)) rfl J7 rfl rfl rfl rfl ?_;refine RH.pure aa hQ [8] J7 rfl ?_;refine RH.only 9 rfl J7 (fun _=>?_);refine RL.alloc aa rfl rfl (fun b3 m3 IQ sP=>⟨_,rfl,?_⟩);have eN:Ext m2 [] m3:=sP.new J9;refine RL.N1 (RH.cont eN ?_);refine RH.only 10 rfl J7 (fun _=>?_);refine RL.bF aa (b:=b3) (i:=0) (vs:=iC ⟨c,a⟩) (cs:=[.int .u64 0,.int .u64 0]) sP.fc rfl rfl rfl rfl rfl YA (by simp [iC,Value.oneCell']) rfl ?_;intro m4 jf;have eQ:Ext m2 [] m4:=eN.trans jf.ext (fun q hq=>.inr (by have h9:q=b3:=J3;omega));have mo:bw m4 b3 30 (iC ⟨c,a⟩):=jf.fc;refine RL.N1 (RH.cont eQ ?_);refine RH.done J7 (fun _=>?_);refine YJ ?_;have A3:Sl m4 S 1 (.slice (some ade) M.length cE) (mu M):=QE.ext (eQ.mono YA) (fun k hk=>.inl hk) J9;have gl:=hO.ext eQ YA;have lX:ek m1 S m4:=⟨hN.1.trans eQ YA,hN.2⟩;clear sP jf eN hO hN QE;refine YG ?_;refine RL.pure aa 1 rfl ?_;refine RL.aJ aa (iC ⟨c,a⟩) rfl rfl rfl (fun j u hu=>by rw [av];exact mo.cell _ J2) rfl ?_;refine zM (kF m4 _ rs (h.bQ lX.1) J9 ⟨c,a⟩) ?_;rintro _ m5 ⟨rfl,ff⟩;refine ⟨_,rfl,?_⟩
   replace mo:=mo.ext ff YA
   replace A3:=A3.ext (ff.mono YA) (M':=S) (fun k hk=>.inl hk) J9
   replace gl:=gl.ext ff YA
   replace lX:ek m1 S m5:=⟨lX.1.trans ff YA,lX.2⟩
   refine aa0 ?_;refine ab8 ?_;refine RL.aJ aa (iC ⟨c,a⟩) rfl rfl rfl (fun j u hu=>by rw [av];exact mo.cell _ J2) rfl ?_;refine zM (kF m5 _ than (h'.bQ lX.1) J9 ⟨c,a⟩) ?_;rintro _ m6 ⟨rfl,oS⟩;refine aa1 ?_
   replace A3:=A3.ext (oS.mono YA) (M':=S) (fun k hk=>.inl hk) J9
   replace gl:=gl.ext oS YA
   replace lX:ek m1 S m6:=⟨lX.1.trans oS YA,lX.2⟩
   clear ff oS eQ mo;refine ac6 ?_
   by_cases hle:ak rs c a≤ak than c a
   ·refine RL.eqv (v':=.bool true) (xZ _ (zW (by simp only;omega))) ?_;refine RL.N1 (YE ?_);refine WP.da rfl ?_;refine ac2 ?_;refine ab8 ?_;refine RL.eqv (v':=.int .i64 ((k+1:Nat):Int)) (xZ _ Jb) ?_;refine ab3 ?_;have he:jV rs than Rk c a b=Rk:=yS hle;rw [he]at iw;exact RL.N1 (QN.round (k+1,ow,S,Rk) YC ⟨by show k+1≤_;omega,gl,lX,A3,iw.symm.trans hP,by show Rk.length≤R.length+(k+1);omega⟩ (by show _-(k+1)<_-k;omega))
   refine RL.eqv (v':=.bool false) (xZ _ (zV (by simp only;omega))) ?_;refine RL.N1 (YE ?_);refine WP.bg rfl ?_;refine ab7 ?_;have V1:jV rs than Rk c a b=tj Rk ⟨c,a,b,ak rs c a⟩:=zX hle;rw [V1]at iw zo;generalize ak rs c a=n at iw zo hle;obtain ⟨AO,cO,rfl,_⟩:=gl.shape;refine RL.A1 aa rfl ?_;refine RL.N1 (YJ ?_);refine WP.cut (X:=Bool) (fun p=>[(0,.slice A rs.length cA),(1,.slice B than.length cB),(5,.slice AO Rk.length cO),(6,.slice (some adc) cs.length cC),(7,.int .i64 i),(8,.slice (some ade) M.length cE),(9,.int .i64 k),(11,.int .u64 n),(12,.int .i64 Rk.length),(93,.bool p)])
    (fun p m'=>m'=m6∧p=jn Rk ⟨c,a,b,n⟩) ?_ ?_
   ·cases Rk with
    |nil=>
     refine WP.dI (fun m'=>m'=m6) [] J7 rfl JJ (fun hQ=>?_);refine RH.pure aa hQ [0,1,2,3,4,5,6,7,8,9,10,11,12,13,14,15,16,17,18,19,20,21,22,23,24,25,26,27,28,29,30,31,32,33,34,35,36,37] J7 rfl ?_;refine RH.done J7 (fun _=>?_);exact QN.ar false YC ⟨rfl,rfl⟩
    |cons y r'=>
     have KM:Ts m6 [] (.slice AO (y::r').length cO) (r'.reverse++[y]):=by
      have:=gl.sl (M:=[]) YA;rw [tB]at this;exact this
     obtain ⟨ad5,rfl,hy⟩:=KM.cell r'.length YA;have I7:(r'.reverse++[y])[r'.length]'(by simp)=y:=by simp
     rw [I7]at hy;have iD:(y::r').length=r'.length+1:=rfl;refine WP.dI (fun m'=>m'=m6) [] J7 rfl JJ (fun hQ=>?_);refine RH.pure aa hQ [0,1] J7 rfl ?_;refine RH.eqv (v':=.bool true) (xZ _ (zW (by simp only [iD];omega))) ?_;refine RH.pure aa hQ [2,3,4,5] J7 rfl ?_;refine RH.eqv (v':=.int .i64 r'.length) (xZ _ JG) ?_;refine RH.indexAddr aa hQ 6 (k:=r'.length) rfl J7 rfl rfl rfl rfl rfl rfl rfl J9 rfl ?_;refine RH.pure aa hQ [7] J7 rfl ?_;refine RH.load aa hQ 8 (fun m' bm=>by rw [bm];exact hy 0 _ rfl) rfl J7 rfl rfl rfl rfl ?_;refine RH.pure aa hQ [9,10] J7 rfl ?_;refine RH.indexAddr aa hQ 11 (k:=i) rfl J7 rfl rfl rfl rfl rfl rfl rfl hc rfl ?_;refine RH.load aa hQ 12 (fun m' bm=>by rw [bm];exact n9 m6 lX.1) rfl J7 rfl rfl rfl rfl ?_;refine RH.pure aa hQ [13] J7 rfl ?_
     by_cases h1:y.c=c
     ·refine RH.eqv (v':=.bool true) (xZ _ Ji) ?_;refine RH.pure aa hQ [14,15,16,17,18] J7 rfl ?_;refine RH.eqv (v':=.int .i64 r'.length) (xZ _ JG) ?_;refine RH.indexAddr aa hQ 19 (k:=r'.length) rfl J7 rfl rfl rfl rfl rfl rfl rfl J9 rfl ?_;refine RH.pure aa hQ [20] J7 rfl ?_;refine RH.load aa hQ 21 (fun m' bm=>by rw [bm];exact hy 2 _ rfl) rfl J7 rfl rfl rfl rfl ?_;refine RH.pure aa hQ [22,23] J7 rfl ?_;refine RH.indexAddr aa hQ 24 (k:=k) rfl J7 rfl rfl rfl rfl rfl rfl rfl J9 rfl ?_;refine RH.load aa hQ 25 (fun m' bm=>by rw [bm];exact UD A3) rfl J7 rfl rfl rfl rfl ?_;refine RH.pure aa hQ [26] J7 rfl ?_
      by_cases h2:y.t=a
      ·refine RH.eqv (v':=.bool true) (xZ _ Jh) ?_;refine RH.pure aa hQ [27,28,29,30,31] J7 rfl ?_;refine RH.eqv (v':=.int .i64 r'.length) (xZ _ JG) ?_;refine RH.indexAddr aa hQ 32 (k:=r'.length) rfl J7 rfl rfl rfl rfl rfl rfl rfl J9 rfl ?_;refine RH.pure aa hQ [33] J7 rfl ?_;refine RH.load aa hQ 34 (fun m' bm=>by rw [bm];exact hy 3 _ rfl) rfl J7 rfl rfl rfl rfl ?_;refine RH.pure aa hQ [35,36] J7 rfl ?_;refine RH.eqv (v':=.bool (decide (y.n=n))) (xZ _ (AY _ _)) ?_;refine RH.pure aa hQ [37] J7 rfl ?_;refine RH.done J7 (fun _=>?_);exact QN.ar (decide (y.n=n)) YC ⟨rfl,by simp [jn,h1,h2]⟩
      ·refine RH.eqv (v':=.bool false) (xZ _ Jf) ?_;refine RH.pure aa hQ [27,28,29,30,31,32,33,34,35,36,37] J7 rfl ?_;refine RH.done J7 (fun _=>?_);exact QN.ar false YC ⟨rfl,by simp [jn,h2]⟩
     ·refine RH.eqv (v':=.bool false) (xZ _ Jg) ?_;refine RH.pure aa hQ [14,15,16,17,18,19,20,21,22,23,24,25,26,27,28,29,30,31,32,33,34,35,36,37] J7 rfl ?_;refine RH.done J7 (fun _=>?_);exact QN.ar false YC ⟨rfl,by simp [jn,h1]⟩
   rintro p mc ⟨rfl,hp⟩;refine WP.cond rfl (fun Y4=>?_) (fun Zy=>?_)
   ·rw [Y4]at hp;obtain ⟨y,r',rfl,I5⟩:=Kj hp.symm;rw [I5]at iw zo;have iD:(y::r').length=r'.length+1:=rfl;have xu:Ev.Own mc S 122 4 (.slice AO (y::r').length cO) (y::r').length ((r'.reverse++[y]).flatMap tC):=by
     have:=gl;rw [tB]at this;exact this
    obtain ⟨g,cap,cur,mS,Is,rfl,G0,eG⟩:=xu.Ci (j:=r'.length*4+2) (by rw [iD];omega)
    injection mS with mS Fk
    subst mS;refine YG ?_;refine ad0 ?_;refine RL.eqv (v':=.int .i64 r'.length) (xZ _ JG) ?_;refine ad0 ?_;refine RL.eqv (v':=.int .i64 ((k+1:Nat):Int)) (xZ _ Jb) ?_;refine RL.indexAddr (k:=k+1) aa rfl rfl rfl rfl rfl rfl rfl mr rfl ?_;refine RL.load aa rfl rfl rfl (PQ A3) rfl ?_;refine RL.indexAddr (k:=r'.length) aa rfl rfl rfl rfl rfl rfl rfl J9 rfl ?_;refine RL.eqv (v':=.pointer (some ⟨g,r'.length*4,none⟩)) (xZ (fun q=>Value.pointer (some q)) (by rw [av];show(⟨g,0+r'.length*4,none⟩:Addr)=_;rw [zU])) ?_;refine ab3 ?_;refine RL.store aa Is (i:=r'.length*4+2) (v:=.int .u64 b) G0 rfl rfl rfl rfl rfl rfl ?_;intro m9 yb;have zb:=eG m9 _ yb;rw [show r'.length*4+2=r'.reverse.length*4+2 by rw [xC],Ad,←tB]at zb;have T1:Sl m9 [g] 1 (.slice (some ade) M.length cE) (mu M):=A3.ext yb.ext (fun k hk=>.inl hk) J9;have pt:ek m1 [g] m9:=⟨lX.1.trans yb.ext (fun k hk=>.inr (lX.ge k hk)),lX.2⟩;refine RL.N1 (YE ?_);refine RL.pure aa 2 rfl ?_;refine RL.eqv (v':=.int .i64 ((k+1:Nat):Int)) (xZ _ Jb) ?_;refine RL.A1 aa rfl ?_;exact RL.N1 (QN.round (k+1,_,[g],{y with t:=b}::r') YC ⟨by show k+1≤_;omega,zb,pt,T1,iw.symm.trans hP,by show(y::r').length≤R.length+(k+1);omega⟩ (by show _-(k+1)<_-k;omega))
   ·rw [Zy]at hp;have I5:=FI hp.symm;rw [I5]at iw zo;refine WP.dI (fun m'=>Ext m1 [] m'∧Sl m' [] 1 (.slice (some ade) M.length cE) (mu M)) [] J7 ⟨lX.1,A3.less YA J9⟩ JJ (fun hQ=>?_);refine RH.pure aa hQ [0,1,2] J7 rfl ?_;refine RH.indexAddr aa hQ 3 (k:=i) rfl J7 rfl rfl rfl rfl rfl rfl rfl hc rfl ?_;refine RH.load aa hQ 4 (fun m' bm=>n9 m' bm.1) rfl J7 rfl rfl rfl rfl ?_;refine RH.pure aa hQ [5,6] J7 rfl ?_;refine RH.indexAddr aa hQ 7 (k:=k) rfl J7 rfl rfl rfl rfl rfl rfl rfl J9 rfl ?_;refine RH.load aa hQ 8 (fun m' bm=>UD bm.2) rfl J7 rfl rfl rfl rfl ?_;refine RH.pure aa hQ [9,10,11] J7 rfl ?_;refine RH.eqv (v':=.int .i64 ((k+1:Nat):Int)) (xZ _ Jb) ?_;refine RH.indexAddr aa hQ 12 (k:=k+1) rfl J7 rfl rfl rfl rfl rfl rfl rfl mr rfl ?_;refine RH.load aa hQ 13 (fun m' bm=>PQ bm.2) rfl J7 rfl rfl rfl rfl ?_;refine RH.pure aa hQ [14,15] J7 rfl ?_;refine RH.eqv (v':=tV ⟨c,a,b,n⟩) rfl ?_;refine RH.only 16 rfl J7 (fun _=>?_);refine RL.buildSlice aa [.tmp 119] (us:=[tV ⟨c,a,b,n⟩]) (tC ⟨c,a,b,n⟩) rfl rfl rfl rfl rfl rfl (by simp [tV,tC,Value.cells]) (by simp [tV,Value.cells]) rfl (fun b9 m9 Xu yb=>⟨_,rfl,?_⟩);have P0:Ext mc [] m9:=yb.new J9;have pt:ek m1 S m9:=⟨lX.1.trans P0 YA,lX.2⟩;have T1:=A3.ext (P0.mono YA) (M':=S) (fun k hk=>.inl hk) J9;refine RL.N1 (RH.cont ⟨pt.1,T1.less YA J9⟩ ?_);refine RH.only 17 rfl J7 (fun _=>?_);refine RL.append aa (gl.ext P0 YA) (tC ⟨c,a,b,n⟩) (Src.jF (k:=1) (c:=1) yb.fc rfl) rfl rfl rfl rfl rfl rfl (oL _) Jy Jr ?_;intro v10 m10 S10 Gm ym Bh;have Az:ek m1 S10 m10:=⟨pt.1.trans ym (fun k hk=>.inr (pt.ge k hk)),pt.2.trans Bh pt.1.size⟩;have QY:Sl m10 S10 1 (.slice (some ade) M.length cE) (mu M):=T1.ext ym Bh J9;refine ⟨_,rfl,RL.N1 (RH.cont ⟨Az.1,QY.less YA J9⟩ ?_)⟩;refine RH.pure aa hQ [18] J7 rfl ?_;refine RH.done J7 (fun _=>?_);refine YJ ?_;refine YG ?_;refine RL.pure aa 2 rfl ?_;refine RL.eqv (v':=.int .i64 ((k+1:Nat):Int)) (xZ _ Jb) ?_;refine RL.A1 aa rfl ?_;refine RL.N1 (QN.round (k+1,v10,S10,(⟨c,a,b,n⟩:aK)::Rk) YC ⟨by show k+1≤_;omega,?_,Az,QY,iw.symm.trans hP,by show Rk.length+1≤R.length+(k+1);omega⟩ (by show _-(k+1)<_-k;omega));show Ev.Own m10 S10 122 4 v10 (Rk.length+1) (((⟨c,a,b,n⟩:aK)::Rk).reverse.flatMap tC);rw [tB,←ny]
    simpa using Gm
  ·replace mr:¬k+1<M.length:=by have:=vX mr;omega
   rw [EI rs than c Rk M k mr]at hP;refine ac2 ?_;refine ag8 ?_;subst Xh;refine RL.N1 (QN.round (i+1,ow,S,Rk) YC ⟨by show i+1≤_;omega,hO,hN,?_⟩ Jj);show Qp rs than cs W (i+1) Rk;have h9:=hI.next hc OM (Y0 _ (vF _)) Z7 (by rw [←hP];omega);rw [←hP]at h9;exact h9
 ·replace hc:i=cs.length:=by have:=vX hc;simp only at this;omega
  subst hc;refine af3 ?_;refine QN.aj rfl rfl ⟨_,rfl,R.reverse,⟨hI.canon.reverse,fun c k=>?_,?_⟩,S,by rw [xC];exact hO,dd.trans hN.1 YA,hN.2.trans' dd⟩
  ·rw [kQ,hI.told,wF]
   by_cases kl:c∈cs
   ·rw [yS kl]
   ·rw [zX kl];unfold cK
    by_cases h0:ak rs c k=0
    ·rw [zX J9]
    ·obtain ⟨_,x,hx,g1,g2,_⟩:=qM h0;exact absurd ((TH c).2 ⟨x,hx,g1,g2⟩) kl
  ·rw [xC,hW];exact wG hI.len (wP _ TG)
theorem mG(m:World)(v:Value)(l:List aK)(h:Ts m [] v l)(hl:l.length*(2*l.length)<100000000):
  dg Tryz.prog 53 [v] m fun r m'=>∃L,DR l [] L∧nF m r L m':=by
 have pY:l.length<100000000:=by
  rcases xR l.length with h0|h0
  ·omega
  ·have:=Nat.mul_le_mul_left l.length (show 1≤2*l.length by omega);omega
 refine aP.zA Tryz.func53 ?_;refine aa8 ?_;refine ab3 ?_;refine zM (Ca m v _ l [] h (Sl.nil _ _ _) (by simpa using pY) (by simpa using hl)) ?_;rintro v3 m3 ⟨L,hL,hM⟩;refine aa1 ?_;refine ac0 ?_;exact QN.aj rfl rfl ⟨_,rfl,L,hL,hM⟩
theorem Cu(m:World)(v u:Value)(a b:List aK)(h:Ts m [] v a)(h':Ts m [] u b)(hl:(a++b).length*(2*(a++b).length)<100000000)(zy:a.length+b.length<100000000):
  dg Tryz.prog 58 [v,u] m fun r m'=>∃L,DR (a++b) [] L∧nF m r L m':=by
 obtain ⟨A,c,rfl,_,_⟩:=h.shape;obtain ⟨B,c',rfl,_,_⟩:=h'.shape;refine aP.zA Tryz.func58 ?_;refine aa8 ?_;refine ab3 ?_;have Ma:Sl m [] 4 (.slice A a.length c) (a.flatMap tC):=h;refine RL.append aa (Own.empty _ _ _ _) (a.flatMap tC) (Src.cS Ma) rfl rfl rfl rfl rfl (eu a) (lK a) Jy (by show(0+_)*32≤_;omega) ?_;intro v1 m1 S1 Fa dd Rp;refine ⟨_,rfl,?_⟩;have Mm:Sl m1 [] 4 (.slice B b.length c') (b.flatMap tC):=h'.bQ dd;have KS:ek m S1 m1:=⟨dd,Rp⟩;refine RL.A1 aa rfl ?_;refine RL.append aa Fa (b.flatMap tC) (Src.cS Mm) rfl rfl rfl rfl rfl (eu b) (lK b) Jy (by show(0+_+_)*32≤_;omega) ?_;intro v2 m2 S2 gJ bM TI;refine ⟨_,rfl,?_⟩;have gz:Ext m [] m2:=dd.trans bM (fun k hk=>.inr (KS.ge k hk));have pL:Ts m2 [] v2 (a++b):=by
  have h9:=gJ.sl (M:=[]) YA;rw [yC,ny]at h9;exact h9
 refine zM (mG m2 _ _ pL hl) ?_;rintro v3 m3 ⟨L,hL,S3,km,fG⟩;refine aa1 ?_;refine ac0 ?_;exact QN.aj rfl rfl ⟨_,rfl,L,hL,S3,km,gz.trans fG.1 YA,fG.2.trans' gz⟩
theorem yl(m:World)(v:Value)(l:List aK)(h:Ts m [] v l)(hl:l.length*(2*l.length)<100000000):
  dg Tryz.prog 59 [v] m fun r m'=>∃L,DR l [] L∧Made m r (clean (hid L)) m':=by
 refine aP.zA Tryz.func59 ?_;refine af5 ?_;refine ab3 ?_;refine zM (mG m v l h hl) ?_;rintro v1 m1 ⟨L,hL,hM⟩;refine aa1 ?_;have dd:=hM.ext;have Iy:=hM.ts;have Fg:L.length<100000000:=Nat.lt_of_le_of_lt hL.2.2 (by simpa using hl);obtain ⟨A,c,rfl,_,_⟩:=Iy.shape;refine RL.A1 aa rfl ?_;refine RL.N1 (YE ?_);refine RL.A1 aa rfl ?_;refine RL.N1 (YE ?_);refine (WP.loop (X:=Nat×Value×List Nat) (fun x=>[(0,.slice A L.length c),(3,x.2.1),(4,.int .i64 x.1)])
  (fun x m'=>x.1≤L.length∧Ev.Own m' x.2.2 167 3 x.2.1 (hid (L.take x.1)).length ((hid (L.take x.1)).flatMap rC)∧ek m1 x.2.2 m') (fun x=>L.length-x.1) (0,.slice none 0 0,[])
  YC ⟨YA,Own.empty _ _ _ _,Ext.refl _ _,bp.nil _ _⟩ ?_)
 rintro ⟨i,w,S⟩ m2 ⟨hi,hO,hN⟩;simp only at hi hO hN;refine aa8 ?_;refine WP.cond rfl (fun hc=>?_) (fun hc=>?_)
 ·replace hc:i<L.length:=by have:=xS hc;simp only at this;omega
  obtain ⟨ad,rfl,_⟩:=Iy.cell i hc;have gE:=yq L i hc;have x5:=iq (L.take i);rw [yA,zR hi]at x5;obtain ⟨x,gi⟩:∃x,L[i]=x:=⟨_,rfl⟩;have hx:∀m',Ext m1 [] m'→∀j u,(tC x)[j]?=some u→m'.cell? ((ad.add (i*4)).add j)=some u:=fun m' hE=>by
   obtain ⟨ad',h1,h2⟩:=(Iy.bQ hE).cell i hc
   injection h1 with h1
   subst h1;rw [gi]at h2;exact h2
  rw [gi]at gE;refine ab7 ?_;refine ab8 ?_;refine ab0 ?_;refine ac6 ?_;refine RL.load aa rfl rfl rfl (hx m2 hN.1 3 _ rfl) rfl ?_;refine ac6 ?_;refine RL.eqv (v':=.int .u64 (x.n%2:Nat)) (xZ _ (Int.ofNat_tmod x.n 2).symm) ?_;refine ac6 ?_;refine RL.eqv (v':=.bool (decide (x.n%2=1))) (xZ _ (AY (x.n%2) 1)) ?_;refine RL.N1 (YJ ?_);refine WP.cond rfl (fun ho=>?_) (fun ho=>?_)
  ·rw [yS (xS ho)]at gE;refine WP.dI (fun m'=>Ext m1 [] m') [] J7 hN.1 JJ (fun hQ=>?_);refine af1 ?_;refine RH.load aa hQ 5 (fun m' bm=>hx m' bm 0 _ rfl) rfl J7 rfl rfl rfl rfl ?_;refine RH.pure aa hQ [6,7] J7 rfl ?_;refine ah1 ?_;refine RH.load aa hQ 10 (fun m' bm=>hx m' bm 1 _ rfl) rfl J7 rfl rfl rfl rfl ?_;refine RH.pure aa hQ [11,12] J7 rfl ?_;refine RH.indexAddr aa hQ 13 (k:=i) rfl J7 rfl rfl rfl rfl rfl rfl rfl hc rfl ?_;refine RH.pure aa hQ [14] J7 rfl ?_;refine RH.load aa hQ 15 (fun m' bm=>hx m' bm 2 _ rfl) rfl J7 rfl rfl rfl rfl ?_;refine RH.pure aa hQ [16] J7 rfl ?_;refine RH.eqv (v':=rV ⟨x.c,x.f,x.t⟩) rfl ?_;refine RH.only 17 rfl J7 (fun _=>?_);refine RL.buildSlice aa [.tmp 36] (us:=[rV ⟨x.c,x.f,x.t⟩]) (rC ⟨x.c,x.f,x.t⟩) rfl rfl rfl rfl rfl rfl Jt Jw rfl (fun b9 m9 Xu yb=>⟨_,rfl,?_⟩);have P0:Ext m2 [] m9:=yb.new J9;have pt:ek m1 S m9:=⟨hN.1.trans P0 YA,hN.2⟩;refine RL.N1 (RH.cont pt.1 ?_);refine RH.only 18 rfl J7 (fun _=>?_);refine RL.append aa (hO.ext P0 YA) (rC ⟨x.c,x.f,x.t⟩) (Src.jF (k:=1) (c:=1) yb.fc rfl) rfl rfl rfl rfl rfl rfl (gI _) Jy Jn ?_;intro v10 m10 S10 Gm ym Bh;have Az:ek m1 S10 m10:=⟨pt.1.trans ym (fun k hk=>.inr (pt.ge k hk)),pt.2.trans Bh pt.1.size⟩;refine ⟨_,rfl,RL.N1 (RH.cont Az.1 ?_)⟩;refine RH.pure aa hQ [19] J7 rfl ?_;refine RH.done J7 (fun _=>?_);refine YJ ?_;refine YG ?_;refine RL.pure aa 2 rfl ?_;refine RL.eqv (v':=.int .i64 ((i+1:Nat):Int)) (xZ _ Jb) ?_;refine RL.A1 aa rfl ?_;refine RL.N1 (QN.round (i+1,v10,S10) YC ⟨by show i+1≤_;omega,?_,Az⟩ Jj);show Ev.Own m10 S10 167 3 v10 (hid (L.take (i+1))).length ((hid (L.take (i+1))).flatMap rC);rw [gE,zY,←jd]
   simpa using Gm
  ·rw [zX (vX ho),vI]at gE;refine ab7 ?_;refine ag8 ?_;refine RL.N1 (QN.round (i+1,w,S) YC ⟨by show i+1≤_;omega,?_,hN⟩ Jj);show Ev.Own m2 S 167 3 w (hid (L.take (i+1))).length ((hid (L.take (i+1))).flatMap rC);rw [gE];exact hO
 ·replace hc:i=L.length:=by have:=vX hc;simp only at this;omega
  subst hc;rw [wF]at hO;have x5:=iq L;have Mn:Rs m2 [] w (hid L):=hO.sl YA;have gz:Ext m [] m2:=dd.trans hN.1 YA;refine WP.exit (YD ?_);refine YG ?_;refine RL.A1 aa rfl ?_;refine zM (q6 m2 w _ Mn J9) ?_;rintro v9 m9 ⟨S9,zb,pt⟩;refine ⟨_,rfl,?_⟩;refine RL.A1 aa rfl ?_;refine RL.N1 (YE ?_);refine WP.ret (YI ?_);exact QN.aj rfl rfl ⟨_,rfl,L,hL,S9,zb,gz.trans pt.1 YA,pt.2.trans' gz⟩
theorem bu.looks{P:Program}{f:FuncId}{args:List Value}{Pre:List az}{r:Value}(h:∀m X,Tr m (au Pre) X m Pre→dg P f args m fun v m'=>v=r∧m'=m):bu P f args Pre (fun v H=>v=r∧H=[]):=fun m X hT=>
 (h m X hT).mono fun v m' ⟨h1,h2⟩=>⟨[],⟨h1,rfl⟩,by subst h2;exact Tr.drop (H:=[]) (F:=Pre) hT⟩
theorem xv(v u:Value)(xs ys:List aK)(hl:xs.length<1000000000):bu Tryz.prog 69 [v,u] [bW 4 v (xs.flatMap tC),bW 4 u (ys.flatMap tC)] (fun r H=>r=.bool (decide (xs=ys))∧H=[]):=by
 refine bu.looks fun m X hT=>?_
 have h:Ts m [] v xs:=Sl.less (hT.ro 0 rfl) YA J9;have h':Ts m [] u ys:=Sl.less (hT.ro 1 rfl) YA J9;obtain ⟨A,c,rfl,_,_⟩:=h.shape;obtain ⟨B,c',rfl,_,_⟩:=h'.shape;clear hT;refine aP.zA Tryz.func69 ?_;refine YG ?_;refine RL.A1 aa rfl ?_;refine RL.N1 (YE ?_);refine RL.pure aa 4 rfl ?_;refine RL.pure aa 1 rfl ?_;refine RL.eqv (v':=.bool (decide (xs.length≠ys.length))) (xZ _ (k8 _ _)) ?_;refine RL.N1 (YE ?_);refine WP.cond rfl (fun hc=>?_) (fun hc=>?_)
 ·have hc:xs.length≠ys.length:=xS hc;refine YG ?_;refine RL.A1 aa rfl ?_;refine RL.N1 (YE ?_);refine WP.ret (YI ?_);exact QN.aj rfl rfl ⟨_,rfl,by rw [zV (fun h=>hc (by rw [h]))],rfl⟩
 have hlen:xs.length=ys.length:=Classical.not_not.1 (vX hc);refine WP.skip (YE ?_);refine RL.A1 aa rfl ?_;refine RL.N1 (YE ?_);refine WP.loop (X:=Nat) (fun i=>[(0,.slice A xs.length c),(1,.slice B ys.length c'),(12,.int .i64 xs.length),(13,.int .i64 i)]) (fun i m'=>i≤xs.length∧xs.take i=ys.take i∧m'=m) (fun i=>xs.length-i) 0
  YC ⟨YA,YA,rfl⟩ ?_
 rintro i m1 ⟨hi,ht,rfl⟩;refine aa8 ?_;refine WP.cond rfl (fun hc=>?_) (fun hc=>?_)
 ·have hc:i<xs.length:=by have:=xS hc;omega
  have PQ:i<ys.length:=by omega
  refine ab7 ?_;refine aa0 ?_;refine WP.dI (fun m'=>m'=m1) [] J7 rfl JJ (fun hQ=>?_);refine RH.pure aa hQ [0,1] J7 rfl ?_;obtain ⟨ad,rfl,hx⟩:=h.cell i hc;obtain ⟨bd,rfl,hy⟩:=h'.cell i PQ;refine RH.indexAddr aa hQ 2 (k:=i) rfl J7 rfl rfl rfl rfl rfl rfl rfl hc rfl ?_;refine RH.aJ aa hQ 3 (tC xs[i]) (fun m' bm=>by rw [bm];exact hx) rfl J7 rfl rfl rfl rfl ?_;refine RH.pure aa hQ [4,5] J7 rfl ?_;refine RH.indexAddr aa hQ 6 (k:=i) rfl J7 rfl rfl rfl rfl rfl rfl rfl PQ rfl ?_;refine RH.aJ aa hQ 7 (tC ys[i]) (fun m' bm=>by rw [bm];exact hy) rfl J7 rfl rfl rfl rfl ?_;refine RH.binOp (K5 xs[i] ys[i]) (DV xs[i] ys[i] _ _) hQ 8 rfl J7 rfl rfl rfl rfl ?_;refine RH.done J7 (fun _=>?_);refine YJ ?_
  by_cases sM:xs[i]=ys[i]
  ·refine WP.bg (xZ (fun q=>some (Value.bool q)) (zV (not_not_intro sM))) ?_;refine aj2 ?_;refine RL.N1 (QN.round (i+1) (Sub.C1 rfl (Sub.C1 rfl (Sub.C1 rfl (Sub.C1 ?_ Sub.nil)))) ⟨J9,?_,rfl⟩ J9)
   ·show some (Value.int .i64 (IntKind.i64.wrap ((i:Int)+1)))=some (Value.int .i64 ((i+1:Nat):Int));rw [ag _ J9 J9];rfl
   ·rw [vN hc,vN PQ,ht,sM]
  ·refine WP.da (xZ (fun q=>some (Value.bool q)) (zW sM)) ?_;refine ab5 ?_;refine QN.aj rfl rfl ⟨_,rfl,?_,rfl⟩;rw [zV];intro h;subst h;exact sM rfl
 ·have hc:i=xs.length:=by have:=vX hc;omega
  subst hc;rw [wF,hlen,wF]at ht;refine af3 ?_;exact QN.aj rfl rfl ⟨_,rfl,by rw [zW ht],rfl⟩
end Go.Proofs.YtgpgladbdoimdaaGreatDoor
