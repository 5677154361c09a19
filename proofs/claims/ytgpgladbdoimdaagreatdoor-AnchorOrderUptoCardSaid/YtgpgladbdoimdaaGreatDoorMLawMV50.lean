/- Texts that belong together. -/
import Derived.Test.YtgpgladbdoimdaaGreatDoorMLawMV44
import Derived.Test.YtgpgladbdoimdaaGreatDoorMLawMV49
import Derived.Test.YtgpgladbdoimdaaGreatDoorCards
import Derived.Test.YtgpgladbdoimdaaGreatDoorTie
import Derived.Test.YtgpgladbdoimdaaGreatDoorRows
import Derived.Lib.LaidU8T
import Derived.Lib.LaidIn
import Derived.SevenTiedAt
import Derived.Carry
namespace Go.Proofs.YtgpgladbdoimdaaGreatDoor
open Go.ChangeShapes Go.WideShapes Go.ChangeAt Go.RowKit Go.Ev Go.Ids Go.SeqP
set_option maxRecDepth 20000
set_option maxHeartbeats 12000000
theorem AJ(k:Int)(n:Nat)(hn:n<1000000000):ee Tryz.prog 13 [.int .i64 k,.int .i64 ((n+1:Nat):Int)] [] (.int .i64 (k%((n+1:Nat):Int))):=ee.of fun m=>(KE m k n hn).mono fun _r _m' ⟨h1,h2⟩=>⟨h1,h2▸Ext.refl _ _⟩
structure DD(y:Dx)(l:List ia):Prop where
 i:DI y l.length
 k:∀c,eH y.es c=nU (nZ l c)
 q:y.q.toUs=qd l ⟨[],.nil⟩
 t:∀c k,ak y.T c k=ak (Qb l) c k
 cv:pP y.T (4*l.length)
theorem DD.may{y:Dx}{l:List ia}{u:ia}(h:DD y l)(hu:jN (nZ l) u):(∀o∈u.os,Good o∧eH y.es o.id.c=nU (o.id.k-1)∧∀i∈o.cY,∃n,eH y.es i.c=nU n∧i.k≤n)∧
  ∀T',bb T'→(∀c k,ak T' c k=ak (y.T++u.ts) c k)→T'.length≤4*(l.length+1):=by
 refine ⟨fun o ho=>?_,fun T' h1 h2=>?_⟩
 ·rcases hu.os with e|⟨o',e,g,h1,h2⟩
  ·rw [e]at ho;cases ho
  ·rw [e,zT]at ho;subst ho;exact ⟨g,by rw [h.k,h1];simp,fun i hi=>⟨_,h.k i.c,(h2 i hi).2⟩⟩
 ·exact ((h.cv.join hu.cv ⟨h1,h2⟩).le (show 4*l.length+4≤4*(l.length+1) by omega)).len h1
theorem DD.snoc{y y':Dx}{l:List ia}{u:ia}(h:DD y l)(hu:jN (nZ l) u)(ha:Ke y y' u.os u.ts)(hi:DI y' (l.length+1)):DD y' (l++[u]):=by
 refine ⟨by rw [zY,uW];exact hi,fun c=>?_,by rw [ha.q,uc,h.q];rfl,fun c k=>?_,?_⟩
 ·rw [ha.k,fB];rcases hu.os with e|⟨o,e,g,h1,_⟩
  ·rw [e,kU,h.k];simp [nZ,Bu,e]
  ·rw [e,kU];simp only [nZ,Bu,e,wJ]
   split
   ·rename_i hc;rw [hc]at h1;have:=g.gq
    congr 1;omega
   ·rw [h.k];simp
 ·rw [ha.T,cn,h.t,Qb,Qb,vG,cn];simp
 ·rw [zY,uW];exact (h.cv.join hu.cv ⟨hi.T,ha.T⟩).le J9
theorem L7(wi:Int)(v:Value)(ls:List Nat)(hl:ls.length≤50)(Oa:∀n∈ls,n<4294967296):bu Tryz.prog 10 [.int .i64 wi,v] [aw,bW 1 v (ls.flatMap u4)]
  (fun r H=>∃(d e:Nat) (y:Dx) (S:List Nat) (x:Rx) (l:List ia),r=.tuple #[pA d,pA e]∧jY l∧l.length≤50∧DD y l∧RD x l∧H=aw::bC d y [cN S e x]):=by
 intro m0 X hS;obtain ⟨M0,bR⟩:=zP (au [aw,bW 1 v (ls.flatMap u4)]);rw [←bR]at hS ⊢;obtain ⟨wr,Pb,RJ⟩:∃wr:Nat,wi%((4:Nat):Int)=(wr:Int)∧wr≤3:=⟨(wi%4).toNat,J9,J9⟩;refine aP.zA Tryz.func10 ?_;refine ah ?_;refine RL.cU (AJ wi 3 J8) (fun m hS=>?_) (hs:=.nil);rw [Pb];refine aZ ?_;rw [ag (1+(wr:Int)) J9 J9,show 1+(wr:Int)=((wr+1:Nat):Int) by omega];refine aZ ?_;refine RL.cM (Nj wr RJ v ls hl Oa) ?_;clear hS;rintro _ m _ ⟨vo,vd,l,So,rfl,pY,hr,rfl⟩ hS;simp only [zC,zN]at hS;have hS:=hS.freeze J8;obtain ⟨A,c,rfl,_,_,hA⟩:=Sl.gY BO lE (hS.bE (show Ip vo l∈_ from JQ)) J8;refine ⟨_,rfl,?_⟩;refine ah ?_;refine RL.cM Fq ?_;clear hS;rintro _ m _ ⟨d,y,rfl,hB,P8,hT,hD,hW,hh,hq,hM,hV,hE,DH,rfl⟩ hS;simp only [bC,zC,zN]at hS;have hS:=(hS.aH (Pre:=aw::bC d y (LQ (.slice A l.length c) l)) JC).drop;have Oq:DD y []:=⟨⟨fun c=>⟨0,by rw [P8];rfl⟩,hW,hh,by rw [hq];rfl,by rw [hq];exact QQ,by rw [hq];decide,by rw [hB];decide,by rw [hV];decide,by rw [hM];decide,by rw [DH];decide,by rw [hT];exact bb.nil,by rw [hT];decide,by rw [hD,hT];exact (dU Canon.nil).symm⟩,fun c=>by rw [P8];rfl,by rw [hq];rfl,fun c k=>by rw [hT];rfl,by rw [hT];exact pP.nil⟩;refine ⟨_,rfl,?_⟩;refine ah ?_;refine (WP.eo (X:=Nat×Dx) (fun z=>[(6,.slice A l.length c),(8,pA d),(9,.int .i64 z.1)])
  (fun z m'=>z.1≤l.length∧DD z.2 ((ez l).take z.1)∧Tr m0 M0 X m' (aw::bC d z.2 (LQ (.slice A l.length c) l)))
  (fun z m'=>DD z.2 (ez l)∧Tr m0 M0 X m' (aw::bC d z.2 (LQ (.slice A l.length c) l))) (fun z=>l.length-z.1) (0,y) 0
  JT ⟨yI _,Oq,hS⟩ ?_ ?_)
 ·clear hS Oq;rintro ⟨i,y⟩ m ⟨hi,hy,hS⟩;dsimp only at hi hy hS ⊢;refine ah ?_;rcases xA i l.length with aM|fW
  ·rw [zW (show(i:Int)<(l.length:Int) by omega)];obtain ⟨z,hz⟩:=zQ aM;obtain ⟨ad,rfl⟩:=hA i z hz;have R4:(ez l)[i]?=some z.u:=by rw [ez,xM,hz];rfl
   have hu:=hr i z.u R4;have hlen:((ez l).take i).length=i:=by rw [yA,ez,uF];omega
   obtain ⟨a1,a2⟩:=hy.may hu;have hI:=hy.i;rw [hlen]at hI a2;refine ah ?_;refine RL.fg aa BO lE (hS.bE (show Ip (.slice (some ad) l.length c) l∈_ from JQ)) hz 0 (BO z) rfl rfl rfl rfl rfl YB rfl rfl ?_;refine ah ?_;have hS:=(hS.mf (show ey 22 (mO l)∈_ from JQ) (lI hz).1).mf (show ey 4 (mI l)∈_ from zO _ JQ) (lI hz).2;refine RL.cM (w7 d y i hI J9 z.vo z.vt z.u.os z.u.ts hu.ol hu.tl a1 a2) ?_;clear hS;rintro _ m _ ⟨⟨_,rfl⟩,y',ha,hG,rfl⟩ hS;simp only [bC,zC,zN]at hS;refine ⟨_,rfl,?_⟩;refine ah ?_;rw [ag ((i:Int)+1) J9 J9,show(i:Int)+1=((i+1:Nat):Int) by omega];have hS:=(hS.aH (Pre:=aw::bC d y' (LQ (.slice (some ad) l.length c) l)) JC).drop;refine QN.round (i+1,y') JT ⟨aM,?_,hS⟩ J0;dsimp only;rw [wB,R4];exact hy.snoc hu ha (by rw [hlen];exact hG)
  ·rw [zV (show¬(i:Int)<(l.length:Int) by omega)];refine ah ?_;refine QN.du (i,y) JT ⟨?_,hS⟩;rw [yD (by rw [ez,uF];omega)]at hy;exact hy
 ·clear hS;rintro ⟨i,y⟩ m ⟨hy,hS⟩;dsimp only at hy hS ⊢;refine QN.bx ?_;refine ah ?_;refine RL.cM (Kd (.slice A l.length c) l J9 hr) ?_;clear hS;rintro _ m _ ⟨e,S,x,rfl,hx,rfl⟩ hS;simp only [bC,zC,zN]at hS;refine aa7 ?_;refine QN.dW rfl rfl rfl ⟨_,rfl,_,⟨d,e,y,S,x,ez l,rfl,hr,by rw [ez,uF];exact pY,hy,hx,rfl⟩,?_⟩;dsimp only [bC];exact (hS.aH JC).drop
theorem EJ{y:Dx}{x:Rx}{l:List ia}(hy:DD y l)(hx:RD x l):y.D=x.D∧y.q.toUs=x.q∧Canon y.D∧y.D.length≤4*l.length∧y.q.us.length≤4096*l.length:=by
 have hT:y.T=x.T:=de hy.i.T hx.i.i.t fun c k=>by rw [hy.t,hx.t]
 refine ⟨by rw [hy.i.D,hx.i.d,hT],by rw [hy.q,hx.q],by rw [hy.i.D];exact dt _,?_,hy.i.us⟩;rw [hy.i.D];exact wG (eM _) (wG (iq _) hy.i.tl)
theorem Of(x y:sF)(w:World):(binOp .neq 32 (aV x) (aV y)).run Tryz.prog w=.ok (.bool !(decide (x=y))) w:=by
 have h:=X1 x y w;simp only [aV]at h ⊢;rw [run_neq_struct];simp only [Op.equal,Op.maxDepth]at h;rw [h];rfl
theorem KG(wi:Int)(v:Value)(ls:List Nat)(Oa:∀n∈ls,n<4294967296)(at_:Int)(after:Bool):bu Tryz.prog 3 [.int .i64 wi,v,.int .i64 at_,.bool after] [aw,bW 1 v (ls.flatMap u4)] (fun r H=>r=.bool true∧H=[]):=by
 intro m0 X hS;obtain ⟨M0,bR⟩:=zP (au [aw,bW 1 v (ls.flatMap u4)]);rw [←bR]at hS ⊢;obtain ⟨A,c,rfl,_,_,_⟩:=Sl.gY u4 oJ (hS.bE (show bW 1 v (ls.flatMap u4)∈_ from JQ)) J8;refine aP.zA Tryz.func3 ?_;refine ah ?_;refine RL.cM Hu ?_;clear hS;rintro _ m _ ⟨rfl,rfl⟩ hS;simp only [yC]at hS;refine aa7 ?_;rcases xA 50 ls.length with aM|hle
 ·rw [zW (show(ls.length:Int)>50 by omega)];refine ah ?_;exact QN.aj rfl rfl ⟨_,rfl,_,⟨rfl,rfl⟩,hS.drop (H:=[])⟩
 ·rw [zV (show¬(ls.length:Int)>50 by omega)];refine ah ?_;refine RL.cM (L7 wi (.slice A ls.length c) ls hle Oa) ?_;clear hS;rintro _ m _ ⟨d,e,y,S,x,l,rfl,hr,pY,hy,hx,rfl⟩ hS;obtain ⟨eD,eq_,P1,Ob,Fs⟩:=EJ hy hx;have VT:=hy.i.q;simp only [bC,zC,zN]at hS;have hS:=(hS.aH (Pre:=aw::bC d y [cN S e x]) JC).drop;have hL:lh x.D x.q=lh y.D y.q.toUs:=by rw [eD,eq_]
  obtain ⟨L,BJ⟩:=zP (lh y.D y.q.toUs);have Fg:L.length≤1000000:=by
   rw [BJ,lh];refine wG (xD _ _) ?_;rw [jI,uF];have:y.q.toUs.ax.length=y.q.us.length:=VT.sT;omega
  refine aa7 ?_;refine RL.cM (rY d y P1 J9 at_ after) ?_;clear hS;rintro _ m _ ⟨rfl,S5,rfl⟩ hS;simp only [bC,zC,zN]at hS;have hS:=(hS.aH (Pre:=aw::bC d {y with S5:=S5} [cN S e x]) JC).drop;rw [qR y.D y.q.toUs,←BJ];obtain ⟨⟨a,ok⟩,ha⟩:∃a:sF×Bool,a=dJ L at_ after:=⟨_,rfl⟩;rw [←ha];refine ⟨_,rfl,?_⟩;refine ah ?_
  (try clear hS);intro b11 m hS;refine aa7 ?_
  (try clear hS);intro m hS;refine ah ?_
  refine RL.cM (Hg S e x (by rw [←eD];omega) at_ after) ?_;clear hS;rintro _ m _ ⟨rfl,S2,rfl⟩ hS;simp only [zC,zN]at hS;rw [py,hL,←BJ,←ha];refine aa7 ?_
  (try clear hS);intro b13 m hS;refine aa7 ?_
  (try clear hS);intro m hS;refine ah ?_
  refine RL.binOp (Of a a) (fF _ _ _ _ _) rfl rfl rfl rfl ?_;rw [zW (show a=a from rfl)];refine ah ?_;rw [show(!((a,ok).snd==(a,ok).snd))=false by cases ok<;>rfl];refine ah ?_;have hS:=(hS.aH (Pre:=cN S2 e x::aw::bC d {y with S5:=S5} []) JC).drop;refine RL.cM (lV S2 e x (by rw [←eD];omega)) ?_;clear hS;rintro v2 m _ ⟨S3,S4,rfl⟩ hS;simp only [zC,zN]at hS;rw [py,hL,←BJ]at hS;obtain ⟨A2,c2,rfl,_⟩:=Ev.Own.shape (show Ev.Own m S3 30 2 v2 L.length (L.flatMap iC) from hS.head);have hS:=(hS.aH (Pre:=aw::bC d {y with S5:=S5} []) JC).drop;refine ⟨_,rfl,?_⟩;refine aZ ?_;rw [ag ((L.length:Int)+1) J9 J9,show(L.length:Int)+1=((L.length+1:Nat):Int) by omega];refine aZ ?_;refine RL.cU (AJ at_ L.length J9) (fun m hS=>?_) (hs:=.nil);obtain ⟨n,hn,If⟩:∃n:Nat,at_%((L.length+1:Nat):Int)=(n:Int)∧n≤L.length:=by
   have h1:=Int.emod_nonneg at_ (show((L.length+1:Nat):Int)≠0 by omega);have h2:=Int.emod_lt_of_pos at_ (show(0:Int)<((L.length+1:Nat):Int) by omega);exact ⟨(at_%((L.length+1:Nat):Int)).toNat,J9,J9⟩
  rw [hn];obtain ⟨w1,w2⟩:=E1 VT y.D n after (by rw [←BJ];exact If);rw [←BJ]at w1 w2;refine ah ?_;refine RL.cM (rY d {y with S5:=S5} P1 (by show y.D.length≤_;omega) n after) ?_;clear hS;rintro _ m _ ⟨rfl,S5,rfl⟩ hS;simp only [bC,zC,zN]at hS;have hS:=(hS.aH (Pre:=aw::bC d {y with S5:=S5} []) JC).drop;rw [show(im y.D y.q.ax).map (·.2.id)=L by rw [BJ];exact qR y.D y.q.toUs,w1];obtain ⟨g,hg⟩:=zP ((dJ L n after).1:sF);rw [←hg]at w2 ⊢;refine ⟨_,rfl,?_⟩;refine ah ?_
  (try clear hS);intro b16 m hS;refine aa7 ?_
  (try clear hS);intro m hS;refine ah ?_
  have hS:Tr m0 M0 X _ (ab b16 32 (aC g)::aw::bC d {y with S5:=S5} []):=hS;refine RL.cM (um d {y with S5:=S5} g VT (by show y.q.us.length≤_;omega) hy.i.tr (by show y.D.length<_;omega)) ?_;clear hS;rintro _ m _ ⟨rfl,S5,rfl⟩ hS;rw [show gX y.D y.q.ax g=((n:Int),true) from w2];refine ⟨_,rfl,?_⟩;refine ah ?_;rw [show((n:Int)==(n:Int))=true from tH _];exact QN.aj rfl rfl ⟨_,rfl,[],⟨rfl,rfl⟩,Tr.drop (H:=[]) hS⟩
abbrev qQ:List (String×DataW Unit):=[("unicode/utf8.acceptRanges",Rows.laid_unicode_utf8_acceptRanges),("unicode/utf8.first",Rows.laid_unicode_utf8_first)]
theorem GI:Rows.laid_unicode_utf8_first=Lib.firstData:=by kernel_rfl
theorem DX:(Rows.laid_unicode_utf8_acceptRanges:DataW Unit)=Lib.acceptData:=by kernel_rfl
theorem Le{W:World}(h:laidMetH Tryz.prog qQ W):ER (World.lS W) []:=by
 rw [MakeChecks.laidMetH_plain _ _ _ J7]at h;have h1:Lib.Utf8Tabs (Tryz.cr.g 3) (Tryz.cr.g 4) W:=utf8Tabs_of_readsT (U8Types.of196 Tryz.valid) ⟨J7,J7,J7,J7,J7,J7,J7⟩
  (GI▸Lib.laidMet.reads h (.tail _ (.head _))) (DX▸Lib.laidMet.reads h (.head _))
 exact ⟨⟨fun c hc=>h1.1 c hc,fun i hi=>h1.2 i hi⟩,YA,YA,rfl⟩
theorem KU(os:Os)(args:Array Value):laidMetH Tryz.prog qQ ((World.laidAll Tryz.prog os qQ).forCall (fun _ _=>0) ⟨#[],args,[]⟩).memory:=by
 rw [MakeChecks.laidMetH_plain _ _ _ J7];exact laidMet_laidAll _ J7 J7
set_option maxRecDepth 100000 in
theorem LS{H:Type}{enc:TypeId×Value→H}{W:World}{b0:Nat}{r:Reach}{v:Value}{d:DataW H}{ps:List MemPlace}
  (cP:Value.okWide Tryz.prog W r b0 22 v)(pM:Fit Tryz.prog 22 d)(h:DataW.Trod enc Tryz.prog W 0 (fun _=>true) true 22 v d ps):∃l:List Nat,Sl W [] 1 v (l.flatMap u4)∧∀n∈l,n<4294967296:=by
 obtain ⟨fuel,h⟩:=h;obtain ⟨u,l,x9,hS,hl⟩:=Ld (α:=Nat) u4 (fun n=>n<4294967296) (NR 22 rfl rfl) (cellsOf 65 rfl rfl) pM (fun cs n y _ hy _=>by
  obtain ⟨z,rfl,_,hw⟩:=DataW.trod_int (NR 65 rfl rfl) hy;have hz:=Po hw (lo:=0) (hi:=4294967295) J8 J8;exact ⟨z.toNat,by rw [u4,Int.toNat_of_nonneg hz.1],J9⟩) h
 have:=o3 x9 (okWide_slice (NR 22 rfl rfl) cP);subst this;exact ⟨l,hS,hl⟩
end Go.Proofs.YtgpgladbdoimdaaGreatDoor
