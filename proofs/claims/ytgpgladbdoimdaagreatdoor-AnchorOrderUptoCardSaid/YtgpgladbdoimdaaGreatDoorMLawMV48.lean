/- Texts that belong together. -/
import Derived.Test.YtgpgladbdoimdaaGreatDoorMLawMV52
namespace Go.Ev
section
open Go.RowKit
variable{P:Program} {T:Ty} {ops:Array Oper} {Q:Exit→Act→World→Prop} {l rest:List Oper} {n:Nat} {e e':Env} {D:Fr} {m0 m:World} {M0 X:List Nat} {H L:List az} {B:az} {J J':World→Prop} {fin:List Nat} {fuel:Nat} {listed:Array Bool}
 {d:Option Tmp} {x:Operand} {t t2 ty:TypeId} {pos:String} {aft:Array Edge} {g:Option (Nat×Bool)} {rt:Row}
theorem o9{ro:Option Nat}{md:Region.Mode}{S S':World→Prop}(h:∀w,S w→S' w):∀(fuel:Nat) (listed:Array Bool) (a:Act) (w:World),eE ro P md ops Q S fin fuel listed a w→eE ro P md ops Q S' fin fuel listed a w
 |0,_,_,_,hw=>hw
 |fuel+1,_,_,_,hw=>⟨hw.1,fun i hi=>wpOpIn_mono (fun a' w' h'=>⟨h'.1.imp id (h w'),o9 h fuel _ a' w' h'.2⟩) (hw.2 i hi)⟩
theorem RH.more(B:az)(hS:Tr m0 M0 X m H)(hL:an H (B::L))(h:RH P ops Q (JS m0 M0 X (B::L)) fin fuel listed n e D m):RH P ops Q (JS m0 M0 X L) fin fuel listed n e D m:=fun a w hf hw _=>
 o9 (fun _w ⟨m',h1,H',h2,h3⟩=>⟨m',h1,H',h2,an.ay fun _A hA=>h3.mem (zO _ hA)⟩) fuel listed a w (h a w hf hw ⟨H,hS,hL⟩)
theorem RH.three{i j k:Nat}{o o' o'':Oper}(_:hY ops listed.toList=[i,j,k])(hr:Region.ready .any ops listed=[i,j,k])(hi:ops[i]?=some o)(hj:ops[j]?=some o')(hk:ops[k]?=some o'')
  (h1:RL P ops (Exit.then (iK D.ro P ops Q J fin i fuel (listed.setIfInBounds i true)) Q) [o] n e D m)(h2:RL P ops (Exit.then (iK D.ro P ops Q J fin j fuel (listed.setIfInBounds j true)) Q) [o'] n e D m)(h3:RL P ops (Exit.then (iK D.ro P ops Q J fin k fuel (listed.setIfInBounds k true)) Q) [o''] n e D m):RH P ops Q J fin (fuel+1) listed n e D m:=
 fun a w hf hw _=>RF.each YA hr (fun q hq=>by
  simp only [yH,uT,uU]at hq;rcases hq with rfl|rfl|rfl
  ·exact ⟨o,hi,h1⟩
  ·exact ⟨o',hj,h2⟩
  ·exact ⟨o'',hk,h3⟩) a w hf hw
theorem RL.OZ{k:IntKind}{i:Int}(hT:T.Ok P)(dD:T.row t=some rt)(hk:rt.k=.int k){r2:Row}(Bg:T.row t2=some r2)(sL:r2.k=.float .f64)(hg:gd ops e ⟨d,.convert t t2 x,ty,pos,aft,g⟩=some true)(hx:e.ev x=some (.int k i))(hp:aQ n d (.float .f64 (FloatKind.f64.nearest i)) e=some e')(h:RL P ops Q rest n e' D m):RL P ops Q (⟨d,.convert t t2 x,ty,pos,aft,g⟩::rest) n e D m:=by
 refine RL.value _ hg (fun a w hf hs=>?_) hp h;have u1:=(hT.row dD).k;rw [hk]at u1;have u1:P.underlying t=some (.int k):=u1;have u2:=(hT.row Bg).k;rw [sL]at u2;have u2:P.underlying t2=some (.float .f64):=u2;simp [execOp,hf.ev hx,convert,run_underlying u1,run_underlying u2,Conv.intToFloat]
end
end Go.Ev
namespace Go.Proofs.YtgpgladbdoimdaaGreatDoor
open Go.ChangeShapes Go.WideShapes Go.ChangeAt Go.RowKit Go.Ev Go.Ids Go.SeqP
set_option maxRecDepth 20000
set_option maxHeartbeats 12000000
theorem jk(n s:Nat)(hs:iv IntKind.u32 s=s):(n:Int).fdiv (2^iv IntKind.u32 s)=((n/2^s:Nat):Int):=by
 rw [hs,Int.fdiv_eq_ediv_of_nonneg _ (by exact Int.le_of_lt (Int.pow_pos J8))]
 norm_cast
theorem ij(a b:Nat):((a:Int)).tmod (b:Int)=((a%b:Nat):Int):=by
 rw [Int.tmod_eq_emod_of_nonneg J9];norm_cast
def SP(m:Nat):Bool:=(FloatKind.f64.format.sub (FloatKind.f64.nearest (m:Int)) 4619567317775286272).isSome
def HH:Nat→Bool
 |0=>true
 |n+1=>SP n&&HH n
theorem sb:∀n,HH n=true→∀m,m<n→SP m=true
 |0,_,m,h=>absurd h (Nat.not_lt_zero _)
 |n+1,h,m,hm=>by
  simp only [HH,wR]at h;rcases Nat.lt_succ_iff_lt_or_eq.1 hm with h1|rfl
  ·exact sb n h.2 m h1
  ·exact h.1
theorem R9{m:Nat}(h:m<4096):∃r,FloatKind.f64.format.sub (FloatKind.f64.nearest (m:Int)) 4619567317775286272=some r:=uL.1 (sb 4096 (by decide+kernel) m h)
def T6:List (List UInt8):=[[97],[98,99],[195,169],[240,159,152,128,120],[100,101,102,103],[104,105]]
def K3:List (List UInt8):=[[98],[105],[117]]
theorem NL:∀s∈T6,s.length<1000000000:=by decide
theorem SF:∀s∈K3,nY s:=by
 intro s hs;simp only [K3,yH,uT,uU]at hs;rcases hs with rfl|rfl|rfl<;>exact ⟨J8,J8,by decide+kernel⟩
theorem rM{k a n:Nat}{t:List UInt8}{v:Vl}{key:List UInt8}(h1:1≤k)(h2:k≤5)(h3:a<1000000000)(h4:n≤4)(h5:t.length<1000000000)(h6:v.Ok)(h7:nY key):EZ ⟨k,a,n,t,v,key⟩:=⟨⟨h1,h2⟩,h3,h4,h5,h6,fun _=>h7⟩
def SI(a z:Int):Int:=if(if 0>z then 0 else z)<a then(if 0>z then 0 else z)else a
def RU(a z:Int):Int:=if(if 1>z then 1 else z)<a then(if 1>z then 1 else z)else a
theorem uk(a:Nat)(z:Int):∃b:Nat,SI a z=b∧b≤a:=by
 unfold SI
 by_cases h:0>z
 ·rw [yS h]
  split
  ·exact ⟨0,rfl,yI _⟩
  ·exact ⟨a,rfl,yP _⟩
 ·rw [zX h]
  split
  ·exact ⟨z.toNat,J9,J9⟩
  ·exact ⟨a,rfl,yP _⟩
theorem xi(a:Nat)(z:Int):∃b:Nat,RU a z=b∧b≤a:=by
 unfold RU
 by_cases h:1>z
 ·rw [yS h]
  split
  ·exact ⟨1,rfl,J9⟩
  ·exact ⟨a,rfl,yP _⟩
 ·rw [zX h]
  split
  ·exact ⟨z.toNat,J9,J9⟩
  ·exact ⟨a,rfl,yP _⟩
abbrev eI(k a n:Int)(t:List UInt8)(v:Vl)(key:List UInt8)(vp:Value):List Value:=[.int .i64 k,.int .i64 a,.int .i64 n,.string (str t),.int .i64 v.k,.int .i64 v.n,.float .f64 v.f,.string (str v.s),.string (str key),vp]
theorem La(v:Vl):(vC v).length=4:=rfl
def V5(m f:Nat):List Vl:=[.zero,⟨1,1,0,[]⟩,⟨2,m,0,[]⟩,⟨3,0,f,[]⟩,⟨4,0,0,[118]⟩]
theorem RA(m f:Nat):∀v∈V5 m f,v.Ok:=by
 intro v hv;simp only [V5,yH,uT,uU]at hv;rcases hv with rfl|rfl|rfl|rfl|rfl
 all_goals (simp [Vl.Ok,Vl.zero];try decide+kernel)
theorem KH(S:List Nat)(d:Nat)(x:Rx)(cP:x.q.Ok)(hq:x.q.us.length≤1000000)(ep:x.D.length≤1000000)(n:Nat)(hn:n<4294967296):
  bu Tryz.prog 18 [pA d,.int .u32 n] [cN S d x] (fun r H=>∃(e:Ed) (vp:Value) (path:List (List UInt8)) (S':List Nat),r=eV e vp∧EZ e∧path.length≤1∧H=[cN S' d x,bW 1 vp (path.flatMap sC)]):=by
 intro m0 X hS;obtain ⟨M0,bR⟩:=zP (au [cN S d x]);rw [←bR]at hS ⊢;refine aP.zA Tryz.func18 ?_;refine ah ?_
 (try clear hS);intro b4 m hS;refine aa7 ?_
 refine RL.cM (lV S d x ep) ?_;clear hS;obtain ⟨l,hl⟩:=zP (dw x);rw [←hl];rintro v m _ ⟨S2,S',rfl⟩ hS;simp only [zC,zN]at hS;obtain ⟨A,cc,rfl,n9⟩:=Ev.Own.shape (show Ev.Own m S2 30 2 v l.length (l.flatMap iC) from hS.head);have hS:=hS.tail;have pY:l.length≤1000000:=by
  rw [hl,dw,uF];exact wG (xD _ _) (by rw [cP.sT];exact hq)
 clear hl;refine aa7 ?_;obtain ⟨k1,BA⟩:=zP (n/2^12%6);obtain ⟨k2,sL⟩:=zP (n/2^16%3);obtain ⟨a0,XT⟩:=zP (n/2^3%(l.length+1));obtain ⟨n0,Fm⟩:=zP (1+n/2^9%4);have Li:k1<6:=by rw [BA];exact vP _ J8
 have VI:k2<3:=by rw [sL];exact vP _ J8
 have Z6:a0<l.length+1:=by rw [XT];exact vP _ (Nat.succ_pos _)
 obtain ⟨s1,qo⟩:∃s,T6[k1]?=some s:=⟨_,xW (show k1<T6.length from Li)⟩;obtain ⟨s2,xz⟩:∃s,K3[k2]?=some s:=⟨_,xW (show k2<K3.length from VI)⟩;refine WP.KK (X:=Nat) (fun b=>[(1,.int .u32 n),(4,pA b4),(5,.int .i64 l.length),(6,pA b)]) (fun b m'=>Tr m0 M0 X m' (ab b 63 (eC ⟨0,a0,n0,s1,.zero,s2⟩ (.slice none 0 0))::[cN S' d x,ab b4 63 (eC ⟨0,0,0,[],.zero,[]⟩ (.slice none 0 0))])) ?_ ?_
 ·refine WP.bG [] hS an.nil J7 ?_;refine aZ ?_;rw [jk n 3 rfl,ag ((n/2^3:Nat):Int) J9 J9,ag ((l.length:Int)+1) J9 J9,show(l.length:Int)+1=((l.length+1:Nat):Int) by omega];refine aZ ?_;rw [jk n 9 rfl,jk n 12 rfl,jk n 16 rfl,ij (n/2^3) (l.length+1),show(((n/2^12:Nat):Int)).tmod 6=((n/2^12%6:Nat):Int) from ij _ 6,show(((n/2^16:Nat):Int)).tmod 3=((n/2^16%3:Nat):Int) from ij _ 3,
   ag ((n/2^9:Nat):Int) J9 J9,show(((n/2^9:Nat):Int)).tmod 4=((n/2^9%4:Nat):Int) from ij _ 4,ag (1+((n/2^9%4:Nat):Int)) J9 J9,show 1+((n/2^9%4:Nat):Int)=((1+n/2^9%4:Nat):Int) by omega,
   ←BA,←sL,←XT,←Fm]
  refine RH.three rfl J7 rfl rfl rfl ?_ ?_ ?_
  repeat' (first
   |refine RH.oc 60 eS ai.calm rfl J7 rfl ?_
   |refine RH.ix aa ai.calm rfl J7 rfl rfl rfl rfl rfl rfl rfl rfl J9 rfl ?_
   |refine RH.kh aa ai.calm sC xe (JS.bE (show bW 1 _ (T6.flatMap sC)∈_ from JQ)) qo 0 rfl rfl J7 rfl rfl rfl YB rfl rfl rfl ?_
   |refine RH.kh aa ai.calm sC xe (JS.bE (show bW 1 _ (K3.flatMap sC)∈_ from JQ)) xz 0 rfl rfl J7 rfl rfl rfl YB rfl rfl rfl ?_
   |refine RH.two rfl J7 rfl rfl ?_ ?_
   |refine RH.one rfl J7 rfl ?_
   |(refine RL.aA aa (by assumption) [.const (.string ⟨#[97]⟩),.const (.string ⟨#[98,99]⟩),.const (.string ⟨#[195,169]⟩),.const (.string ⟨#[240,159,152,128,120]⟩),.const (.string ⟨#[100,101,102,103]⟩),.const (.string ⟨#[104,105]⟩)] (us:=T6.map fun s=>.string (str s)) (T6.flatMap sC) rfl rfl rfl rfl rfl rfl J8 rfl rfl rfl ?_;(try clear hS);intro b m hS;have hS:=hS.freeze J8;refine ⟨_,rfl,?_⟩;refine RL.N1 (RH.aD hS JH (RH.more (bW 1 (.slice (some ⟨b,0,none⟩) 6 6) (T6.flatMap sC)) hS JH ?_)))
   |(refine RL.aA aa (by assumption) [.const (.string ⟨#[98]⟩),.const (.string ⟨#[105]⟩),.const (.string ⟨#[117]⟩)] (us:=K3.map fun s=>.string (str s)) (K3.flatMap sC) rfl rfl rfl rfl rfl rfl J8 rfl rfl rfl ?_;(try clear hS);intro b m hS;have hS:=hS.freeze J8;refine ⟨_,rfl,?_⟩;refine RL.N1 (RH.aD hS JH (RH.more (bW 1 (.slice (some ⟨b,0,none⟩) 3 3) (K3.flatMap sC)) hS JH ?_)))
   |(refine RL.aU aa rfl (by assumption) rfl rfl ?_;(try clear hS);intro b m hS;refine ⟨_,rfl,?_⟩;refine RL.N1 (RH.aD hS JH ?_))
   |(refine RL.er aa (by assumption) rfl rfl rfl rfl rfl YB YB JN YB ?_;(try clear hS);intro m hS;refine RL.N1 (RH.aD hS JH ?_);refine RH.stop YB (QN.calm ?_);exact QN.ar _ JT (hS.aH JC).drop))
 ·clear hS;rintro b m hS;obtain ⟨m20,UQ⟩:=zP (n/2^20);obtain ⟨fr,Qs⟩:=R9 (show m20<4096 by omega);obtain ⟨k5,SZ⟩:=zP (n/2^19%5);have U4:k5<5:=by rw [SZ];exact vP _ J8
  obtain ⟨v5,eY⟩:∃v,(V5 m20 fr)[k5]?=some v:=⟨_,xW (show k5<(V5 m20 fr).length from U4)⟩;have GF:=RA _ _ v5 (xU eY);refine ah ?_;rw [jk n 20 rfl,←UQ,ag (m20:Int) J9 J9];refine RL.OZ aa rfl rfl rfl rfl rfl rfl rfl ?_;refine RL.binOp (v:=.float .f64 fr) (fun w=>by simp [Go.binOp,Op.floatArith,Qs]) (fun w=>by simp [eqGuard]) rfl rfl rfl rfl ?_;refine ah ?_;refine RL.aA aa hS [.tmp 34,.tmp 35,.tmp 39,.tmp 44,.tmp 45] (us:=(V5 m20 fr).map vV) ((V5 m20 fr).flatMap vC) rfl rfl rfl rfl rfl rfl (by intro u hu;simp only [V5,xK,List.map_nil,yH,uT,uU]at hu;rcases hu with rfl|rfl|rfl|rfl|rfl<;>rfl) rfl rfl rfl ?_;clear hS;intro b9 m hS;refine ⟨_,rfl,?_⟩;refine ah ?_;rw [jk n 19 rfl,show(((n/2^19:Nat):Int)).tmod 5=((n/2^19%5:Nat):Int) from ij _ 5,←SZ];refine ah ?_;refine RL.fg aa vC La (hS.aW (show aF [b9] 53 4 (.slice (some ⟨b9,0,none⟩) 5 5) 5 ((V5 m20 fr).flatMap vC)∈_ from JQ)) eY 0 (vC v5) rfl rfl rfl rfl rfl YB rfl rfl ?_;refine ah ?_
  (try clear hS);intro m hS
  refine RL.N1 ?_;refine QN.N1 ?_;have hS:=(hS.aH (Pre:=ab b 63 (eC ⟨0,a0,n0,s1,v5,s2⟩ (.slice none 0 0))::[cN S' d x,ab b4 63 (eC ⟨0,0,0,[],.zero,[]⟩ (.slice none 0 0))]) JC).drop;refine WP.cut (X:=Ed×Value×List (List UInt8)) (fun z=>[(4,pA b4),(6,pA b)]) (fun z m'=>(EZ z.1∧z.2.1.oneCell'=true)∧z.2.2.length≤1∧Tr m0 M0 X m' (ab b 63 (eC z.1 z.2.1)::bW 1 z.2.1 (z.2.2.flatMap sC)::[cN S' d x,ab b4 63 (eC ⟨0,0,0,[],.zero,[]⟩ (.slice none 0 0))])) ?_ ?_
  ·have hS:=hS.gV 1 J8;have H8:=NL s1 (xU qo);have I4:=SF s2 (xU xz);obtain ⟨r8,W1⟩:=zP (n%8);refine ah ?_;rw [show((n:Int)).tmod 8=((n%8:Nat):Int) from ij _ 8,←W1];have hr:r8=0∨r8=1∨r8=2∨r8=3∨r8=4∨r8=5∨r8=6∨r8=7:=by omega
   clear W1;have sm:∀{m:World} {e:Ed},EZ e→Tr m0 M0 X m (bW 1 (.slice none 0 0) []::ab b 63 (eC e (.slice none 0 0))::[cN S' d x,ab b4 63 (eC ⟨0,0,0,[],.zero,[]⟩ (.slice none 0 0))])→(EZ e∧(.slice none 0 0:Value).oneCell'=true)∧([]:List (List UInt8)).length≤1∧Tr m0 M0 X m (ab b 63 (eC e (.slice none 0 0))::bW 1 (.slice none 0 0) (([]:List (List UInt8)).flatMap sC)::[cN S' d x,ab b4 63 (eC ⟨0,0,0,[],.zero,[]⟩ (.slice none 0 0))]):=fun h1 h2=>⟨⟨h1,rfl⟩,yI _,h2.perm (.swap ..)⟩
   rcases hr with rfl|rfl|rfl|rfl|rfl|rfl|rfl|rfl
   ·refine ah ?_
    (try clear hS);intro m hS;refine ah ?_
    exact ag6
   ·refine ah ?_
    (try clear hS);intro m hS;refine ah ?_
    exact ag6
   ·refine ah ?_
    (try clear hS);intro m hS;refine ah ?_
    exact ag6
   ·refine ah ?_
    (try clear hS);intro m hS;refine ah ?_
    exact QN.ar (⟨2,a0,n0,s1,v5,s2⟩,.slice none 0 0,[]) JT (sm (rM J8 J8 J9 J9 H8 GF I4) hS)
   ·refine ah ?_
    (try clear hS);intro m hS;refine ah ?_
    (try clear hS);intro m hS;refine ah ?_
    (try clear hS);intro m hS;refine ah ?_
    obtain ⟨a1,e1,h1⟩:=uk a0 (IntKind.i64.wrap ((l.length:Int)-1));obtain ⟨n1,e2,h2⟩:=xi n0 (IntKind.i64.wrap ((l.length:Int)-(a0:Int)));have hS:Tr m0 M0 X _ (bW 1 (.slice none 0 0) []::ab b 63 (eI 3 (SI a0 (IntKind.i64.wrap ((l.length:Int)-1))) (RU n0 (IntKind.i64.wrap ((l.length:Int)-(a0:Int)))) s1 v5 s2 (.slice none 0 0))::[cN S' d x,ab b4 63 (eC ⟨0,0,0,[],.zero,[]⟩ (.slice none 0 0))]):=hS;rw [e1,e2]at hS;exact QN.ar (⟨3,a1,n1,s1,v5,s2⟩,.slice none 0 0,[]) JT (sm (rM J8 J8 J9 J9 H8 GF I4) hS)
   ·refine ah ?_
    (try clear hS);intro m hS;refine ah ?_
    (try clear hS);intro m hS;refine ah ?_
    (try clear hS);intro m hS;refine ah ?_
    obtain ⟨a1,e1,h1⟩:=uk a0 (IntKind.i64.wrap ((l.length:Int)-1));obtain ⟨n1,e2,h2⟩:=xi n0 (IntKind.i64.wrap ((l.length:Int)-(a0:Int)));have hS:Tr m0 M0 X _ (bW 1 (.slice none 0 0) []::ab b 63 (eI 3 (SI a0 (IntKind.i64.wrap ((l.length:Int)-1))) (RU n0 (IntKind.i64.wrap ((l.length:Int)-(a0:Int)))) s1 v5 s2 (.slice none 0 0))::[cN S' d x,ab b4 63 (eC ⟨0,0,0,[],.zero,[]⟩ (.slice none 0 0))]):=hS;rw [e1,e2]at hS;exact QN.ar (⟨3,a1,n1,s1,v5,s2⟩,.slice none 0 0,[]) JT (sm (rM J8 J8 J9 J9 H8 GF I4) hS)
   ·refine ah ?_
    (try clear hS);intro m hS;refine ah ?_
    (try clear hS);intro m hS;refine ah ?_
    (try clear hS);intro m hS;refine ah ?_
    obtain ⟨a1,e1,h1⟩:=uk a0 (IntKind.i64.wrap ((l.length:Int)-1));obtain ⟨n1,e2,h2⟩:=xi n0 (IntKind.i64.wrap ((l.length:Int)-(a0:Int)));have hS:Tr m0 M0 X _ (bW 1 (.slice none 0 0) []::ab b 63 (eI 4 (SI a0 (IntKind.i64.wrap ((l.length:Int)-1))) (RU n0 (IntKind.i64.wrap ((l.length:Int)-(a0:Int)))) s1 v5 s2 (.slice none 0 0))::[cN S' d x,ab b4 63 (eC ⟨0,0,0,[],.zero,[]⟩ (.slice none 0 0))]):=hS;rw [e1,e2]at hS;exact QN.ar (⟨4,a1,n1,s1,v5,s2⟩,.slice none 0 0,[]) JT (sm (rM J8 J8 J9 J9 H8 GF I4) hS)
   ·refine ah ?_
    (try clear hS);intro m hS;refine ah ?_
    have hm:nY [109]:=⟨J8,J8,by decide+kernel⟩;have sJ:(⟨5,0,0,[]⟩:Vl).Ok:=.inr (.inl ⟨rfl,rfl,rfl,rfl⟩);cases hc:((((n:Int)).fdiv (2^iv IntKind.u32 24)).tmod 4==0)with
    |false=>
     refine ah ?_;cases jT:((((n:Int)).fdiv (2^iv IntKind.u32 26)).tmod 3==0)with
     |false=>
      refine ah ?_;exact QN.ar (⟨5,a0,n0,s1,v5,s2⟩,.slice none 0 0,[]) JT (sm (rM J8 J8 J9 J9 H8 GF I4) hS)
     |true=>
      refine ah ?_;refine RL.aA aa hS [.const (.string ⟨#[109]⟩)] (us:=[.string (str [109])]) ([[109]].flatMap sC) rfl rfl rfl rfl rfl rfl J8 rfl rfl rfl ?_;clear hS;intro b8 m hS;refine aa1 ?_;have hS:=hS.freeze J8;refine ah ?_
      (try clear hS);intro m hS;refine ah ?_
      have hS:=(hS.aH (Pre:=ab b 63 (eC ⟨5,a0,n0,s1,v5,s2⟩ (.slice (some ⟨b8,0,none⟩) 1 1))::bW 1 (.slice (some ⟨b8,0,none⟩) 1 1) ([[109]].flatMap sC)::[cN S' d x,ab b4 63 (eC ⟨0,0,0,[],.zero,[]⟩ (.slice none 0 0))]) JC).drop;exact QN.ar (⟨5,a0,n0,s1,v5,s2⟩,.slice (some ⟨b8,0,none⟩) 1 1,[[109]]) JT ⟨⟨rM J8 J8 J9 J9 H8 GF I4,rfl⟩,yP 1,hS⟩
    |true=>
     refine ah ?_
     (try clear hS);intro m hS;refine ah ?_
     (try clear hS);intro m hS;refine ah ?_
     cases jT:((((n:Int)).fdiv (2^iv IntKind.u32 26)).tmod 3==0)with
     |false=>
      refine ah ?_;exact QN.ar (⟨5,a0,n0,s1,⟨5,0,0,[]⟩,[109]⟩,.slice none 0 0,[]) JT (sm (rM J8 J8 J9 J9 H8 sJ hm) hS)
     |true=>
      refine ah ?_;refine RL.aA aa hS [.const (.string ⟨#[109]⟩)] (us:=[.string (str [109])]) ([[109]].flatMap sC) rfl rfl rfl rfl rfl rfl J8 rfl rfl rfl ?_;clear hS;intro b8 m hS;refine aa1 ?_;have hS:=hS.freeze J8;refine ah ?_
      (try clear hS);intro m hS;refine ah ?_
      have hS:=(hS.aH (Pre:=ab b 63 (eC ⟨5,a0,n0,s1,⟨5,0,0,[]⟩,[109]⟩ (.slice (some ⟨b8,0,none⟩) 1 1))::bW 1 (.slice (some ⟨b8,0,none⟩) 1 1) ([[109]].flatMap sC)::[cN S' d x,ab b4 63 (eC ⟨0,0,0,[],.zero,[]⟩ (.slice none 0 0))]) JC).drop;exact QN.ar (⟨5,a0,n0,s1,⟨5,0,0,[]⟩,[109]⟩,.slice (some ⟨b8,0,none⟩) 1 1,[[109]]) JT ⟨⟨rM J8 J8 J9 J9 H8 sJ hm,rfl⟩,yP 1,hS⟩
  ·clear hS;rintro ⟨e,vp,path⟩ m ⟨⟨he,TX⟩,hp,hS⟩;dsimp only at he TX hp hS ⊢;refine ah ?_;refine RL.er (vs:=eC e vp) aa hS rfl rfl rfl rfl rfl (by simp only [eC,List.all_cons,TX];rfl) YB JN YB ?_
   (try clear hS);intro m hS
   refine ah ?_;have hS:=(hS.aH (Pre:=ab b4 63 (eC e vp)::[cN S' d x,bW 1 vp (path.flatMap sC)]) JC).drop;exact QN.bH (bY.MI aa hS rfl rfl rfl JQ) ⟨_,rfl,_,⟨e,vp,path,S',rfl,he,hp,rfl⟩,hS.tail⟩
end Go.Proofs.YtgpgladbdoimdaaGreatDoor
