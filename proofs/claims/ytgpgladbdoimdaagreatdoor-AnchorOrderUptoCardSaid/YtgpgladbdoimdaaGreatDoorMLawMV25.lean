/- Texts that belong together. -/
import Derived.Test.YtgpgladbdoimdaaGreatDoorMLawMV20
import Derived.Test.YtgpgladbdoimdaaGreatDoorMLawMV21
import Derived.Laws.Cover4
namespace Go.Proofs.YtgpgladbdoimdaaGreatDoor
open Go.ChangeShapes Go.WideShapes Go.ChangeAt Go.RowKit Go.Ev Go.Ids
set_option maxRecDepth 20000
set_option maxHeartbeats 1000000
def aC(a:sF):List Value:=[.int .u64 a.id.c,.int .u64 a.id.k,.bool a.b]
def aV(a:sF):Value:=.agg (aC a).toArray
theorem X1(x y:sF)(w:World):(Op.equal 32 (aV x) (aV y)).run Tryz.prog w=.ok (decide (x=y)) w:=by
 have hS:Tryz.prog.underlying 32=some (.struct (Tryz.prog.fieldsOf 32)):=by kernel_rfl
 have hp:Tryz.prog.stoodInHeld 32=false:=by kernel_rfl
 have u4:=Tryz.underlying4;have a4:=Tryz.isAgg4;have z4:=Tryz.sizeOf4;have aI:=Tryz.isAgg30;have zI:=Tryz.sizeOf30;simp only [aV,aC,Op.equal,Op.maxDepth];rw [show(10000:Nat)=9997+2+1 from rfl,run_equalIn_agg w (9997+2) 32 _ _ hS hp];simp only [Program.fieldsOf,Tryz.underlying32]
 go_simp
 obtain ⟨⟨a,b⟩,c⟩:=x;obtain ⟨⟨a',b'⟩,c'⟩:=y
 by_cases h1:a=a'<;>by_cases h2:b=b'<;>by_cases h3:c=c'<;>simp [h1,h2,h3,Int.natCast_inj]
theorem nz(x y:sF)(w:World):(binOp .eql 32 (aV x) (aV y)).run Tryz.prog w=.ok (.bool (decide (x=y))) w:=by
 have h:=X1 x y w;simp only [aV]at h ⊢;rw [run_eql_struct];simp only [Op.equal,Op.maxDepth]at h;rw [h];rfl
theorem fF(op:BinOp)(x y:sF)(ox oy:Operand)(w:World):(eqGuard op 32 ox oy (aV x) (aV y)).run Tryz.prog w=.ok () w:=run_eqGuard_agg w op 32 ox oy _ _ J7
theorem K6(o:a6):ee Tryz.prog 153 [oV o,oV o] [] (.bool true):=by
 have I:∀(i:aL) (w:World),(binOp .eql 30 (iV i) (iV i)).run Tryz.prog w=.ok (.bool true) w:=fun i w=>by rw [cX,zW rfl]
 have A:∀(i:sF) (w:World),(binOp .eql 32 (aV i) (aV i)).run Tryz.prog w=.ok (.bool true) w:=fun i w=>by rw [nz,zW rfl]
 intro m0 X hS;refine aP.zA Tryz.func153 ?_;refine aa5 ?_;intro b1 m hS;refine ag1 ?_;intro b2 m hS;refine RL.binOp (I o.id) (aY _ _ _ _ _) rfl rfl rfl rfl ?_;refine go ?_;rw [tH];refine go ?_;rw [tH];refine go ?_;refine RL.binOp (I o.l) (aY _ _ _ _ _) rfl rfl rfl rfl ?_;refine go ?_;refine RL.binOp (I o.r) (aY _ _ _ _ _) rfl rfl rfl rfl ?_;refine go ?_;rw [tH];refine go ?_;refine zJ (LA o.v) (fun m hS=>?_);refine go ?_;rw [tH];refine go ?_;refine RL.binOp (I o.p) (aY _ _ _ _ _) rfl rfl rfl rfl ?_;refine go ?_;refine RL.binOp (A o.fr) (fF _ _ _ _ _) rfl rfl rfl rfl ?_;refine go ?_;refine RL.binOp (A o.to) (fF _ _ _ _ _) rfl rfl rfl rfl ?_;exact ae7
abbrev bf(S:List Nat)(v:Value)(L:List aL):az:=aF S 30 2 v L.length (L.flatMap iC)
theorem Dt(o:a6):bu Tryz.prog 157 [oV o] [] (fun r H=>∃S,H=[bf S r o.names]):=by
 intro m0 X hS;refine aP.zA Tryz.func157 ?_;refine aa5 ?_;intro b1 m hS;refine RL.aA aa hS [.tmp 4,.tmp 6,.tmp 9,.tmp 12,.tmp 14] (us:=o.names.map iV) (o.names.flatMap iC) rfl rfl rfl rfl rfl rfl (by intro u hu;obtain ⟨_,_,rfl⟩:=vE.1 hu;rfl) rfl rfl rfl ?_;clear hS;intro b' m hS;refine ab4 ?_;exact QN.aj rfl rfl ⟨_,rfl,_,⟨_,rfl⟩,(hS.perm (.swap ..)).tail⟩
theorem bk.front:∀(O F:List az),bk O (O++F) F
 |[],_=>.nil
 |_::O,F=>.own .head (bk.front O F)
theorem HN(S:List Nat)(v:Value)(L:List aL)(O:List az)(k:FuncId)(ca:List Value)(p:aL→Bool)(hb:L.length≤1000000)(hf:∀i∈L,bu Tryz.prog k (iV i::ca) (aw::O) (fun r H=>r=.bool (p i)∧H=O)):
  bu Tryz.prog 197 [v,.func (.func k) #[] ca.toArray] (aw::(O++[bf S v L])) (fun r H=>(∃z:Int,r=.int .i64 z∧((0≤z∧L.any p=true)∨(z=-1∧L.any p=false)))∧H=O++[bf S v L]):=by
 intro m0 X hS;have fin:∀{m:World},Tr m0 (au (aw::(O++[bf S v L]))) X m (O++[bf S v L,aw])→Tr m0 (au (aw::(O++[bf S v L]))) X m (O++[bf S v L]):=fun h=>Tr.drop (F:=[aw]) J5
 have hS:=hS.perm (xI (l₁:=[aw]) (l₂:=O++[bf S v L]));have hS:Tr m0 (au (aw::(O++[bf S v L]))) X m0 (O++[bf S v L,aw]):=by simpa using hS
 obtain ⟨A,c,hv,hc⟩:=Ev.Own.shape (show Ev.Own m0 S 30 2 v L.length (L.flatMap iC) from hS.mem (A:=bf S v L) YA);obtain ⟨M0,bR⟩:=zP (au (aw::(O++[bf S v L])));rw [←bR]at hS fin ⊢;refine aP.zA Tryz.func197 ?_;refine go ?_;subst hv;refine go ?_;refine (WP.eo (X:=Nat) (fun i=>[(0,.slice A L.length c),(1,.func (.func k) #[] ca.toArray),(7,.int .i64 L.length),(8,.int .i64 i)])
  (fun i m'=>i≤L.length∧(∀j x,j<i→L[j]?=some x→p x=false)∧Tr m0 M0 X m' (O++[bf S (.slice A L.length c) L,aw]))
  (fun i m'=>(∀x∈L,p x=false)∧Tr m0 M0 X m' (O++[bf S (.slice A L.length c) L,aw]))
  (fun i=>L.length-i) 0 0 YC ⟨yI _,fun j x hj=>absurd hj J9,hS⟩ ?_ ?_)
 ·clear hS;rintro i m ⟨hi,mD,hS⟩;dsimp only at hi mD hS ⊢;refine go ?_;rcases tL hi with mN|mN
  ·have hd:decide ((i:Int)<(L.length:Int))=false:=zV J9;rw [hd];refine go ?_;refine WP.exit (QN.tx (QN.tx (QN.du i YC ⟨fun x hx=>?_,hS⟩)));obtain ⟨j,hj,e⟩:=xT hx;exact mD j x J9 (by rw [xW hj,e])
  ·have hd:decide ((i:Int)<(L.length:Int))=true:=zW J9;obtain ⟨x,hx⟩:=zQ mN;obtain ⟨g,c',iI,_,_,_⟩:=hS.dG (show aF S 30 2 (.slice A L.length c) L.length (L.flatMap iC)∈O++[bf S (.slice A L.length c) L,aw] by simp) J9;have fQ:=hS.aW (show aF S 30 2 (.slice A L.length c) L.length (L.flatMap iC)∈O++[bf S (.slice A L.length c) L,aw] by simp);cases iI;rw [hd];refine go ?_;refine RL.o8 aa iC (fun _=>rfl) fQ hx rfl rfl rfl rfl rfl ?_;refine go ?_;refine RL.dr (fi:=[]) (ca:=ca) hS (hf x (xU hx)) rfl rfl rfl rfl (.ro YA rfl (bk.front O _)) ?_;clear hS fQ;rintro _ m _ ⟨rfl,rfl⟩ hS;refine ⟨_,rfl,?_⟩;cases hp:p x with
   |true=>
    refine go ?_;refine QN.vu ?_;refine YI ?_;exact QN.aj rfl rfl ⟨_,rfl,_,⟨⟨i,rfl,.inl ⟨J9,wU.2 ⟨x,xU hx,hp⟩⟩⟩,rfl⟩,fin hS⟩
   |false=>
    refine go ?_;have hw:IntKind.i64.wrap ((i:Int)+1)=((i+1:Nat):Int):=by rw [ag _ J9 J9];omega
    rw [hw];refine QN.round (i+1) YC ⟨mN,fun j y hj hy=>?_,hS⟩ J9;rcases tL (Nat.le_of_lt_succ hj)with rfl|hj
    ·rw [hx]at hy;cases hy;exact hp
    ·exact mD j y hj hy
 ·clear hS;rintro _ m ⟨mD,hS⟩;refine QN.bx ?_;refine go ?_;refine QN.aj rfl rfl ⟨_,rfl,_,⟨⟨-1,rfl,.inr ⟨rfl,?_⟩⟩,rfl⟩,fin hS⟩;rw [Bool.eq_false_iff];intro hh;obtain ⟨x,hx,h⟩:=wU.1 hh;rw [mD x hx]at h;cases h
theorem pq(S:List Nat)(v:Value)(L:List aL)(O:List az)(k:FuncId)(ca:List Value)(p:aL→Bool)(hb:L.length≤1000000)(hf:∀i∈L,bu Tryz.prog k (iV i::ca) (aw::O) (fun r H=>r=.bool (p i)∧H=O)):
  bu Tryz.prog 156 [v,.func (.func k) #[] ca.toArray] (aw::(O++[bf S v L])) (fun r H=>r=.bool (L.any p)∧H=O++[bf S v L]):=by
 intro m0 X hS;refine aP.zA Tryz.func156 ?_;refine go ?_;refine RL.dr (F:=[]) (fi:=[]) (ca:=[]) (by simpa using hS) (HN S v L O k ca p hb hf) rfl rfl rfl rfl (bk.self _) ?_;rintro _ m _ ⟨⟨z,rfl,hz⟩,rfl⟩ hS;simp only [vI]at hS;have hd:decide (z≥0)=L.any p:=by
  rcases hz with⟨h1,h2⟩|⟨h1,h2⟩
  ·rw [h2];exact zW h1
  ·rw [h2];exact zV J9
 refine ab4 ?_;rw [hd];exact QN.aj rfl rfl ⟨_,rfl,_,⟨rfl,rfl⟩,hS⟩
theorem HC(b:Nat)(o:a6)(g:Good o):∀i∈o.names,bu Tryz.prog 154 [iV i,pA b] [aw,ab b 167 (iR o)] (fun r H=>r=.bool false∧H=[ab b 167 (iR o)]):=by
 intro i hi m0 X hS;have h1:=g.names i hi;have h2:=g.own i hi;refine aP.zA Tryz.func154 ?_;refine go ?_;refine RL.bn hS rfl rfl rfl ?_;(try clear hS);intro b2 m hS;refine ⟨_,rfl,?_⟩;refine go ?_;refine zJ (QB i h1) (fun m hS=>?_);refine go ?_;refine RL.aA aa hS [.tmp 8] (us:=[.agg (iR o).toArray]) (iR o) rfl rfl rfl rfl rfl rfl JO rfl rfl rfl ?_;clear hS;intro b' m hS;refine ⟨_,rfl,?_⟩;refine go ?_;have hR:Rs m [] (.slice (some ⟨b',0,none⟩) 1 1) [⟨o.id.c,o.id.k,o.id.k+o.n⟩]:=hS.aW (t:=167) (nn:=1) (S:=[b']) (xs:=iR o) JQ;have hh:hasB [⟨o.id.c,o.id.k,o.id.k+o.n⟩] i=false:=by
  rw [Bool.eq_false_iff];intro hh;simp only [hasB,List.any_cons,List.any_nil,Bool.or_false,qJ,wR,vY]at hh;exact h2 ⟨J9,J9,J9⟩
 refine zM (MA m _ _ hR YA i) ?_;rintro _ m' ⟨rfl,hE⟩;have hS:=hS.calm hE;rw [hh];refine ⟨_,rfl,?_⟩;refine go ?_;exact QN.aj rfl rfl ⟨_,rfl,_,⟨rfl,rfl⟩,hS.aH (Pre:=[ab b 167 (iR o)]) (F:=_) JC|>.drop (H:=[_])⟩
theorem DS(o:a6)(g:Good o):ee Tryz.prog 121 [oV o] [aw] (.int .i64 0):=by
 intro m0 X hS;have ht:=g.top;have hn:=g.gq;refine aP.zA Tryz.func121 ?_;refine go ?_;refine RL.bn hS rfl rfl rfl ?_;(try clear hS);intro b1 m hS;refine ⟨_,rfl,?_⟩;refine go ?_;refine zJ (O8 o g) (fun m hS=>?_);refine go ?_;refine RL.aU aa rfl hS rfl rfl ?_;(try clear hS);intro b3 m hS;refine ⟨_,rfl,?_⟩;refine go ?_;refine RL.er aa hS rfl rfl rfl rfl rfl YB YB JN YB ?_;(try clear hS);intro m hS;refine go ?_;have hS:Tr m0 (au [aw]) X m [ab b3 55 (oC o),ab b1 55 (oC o),aw]:=hS;refine zJ (K6 o) (fun m hS=>?_);refine go ?_;have hp:=ja o.id;rw [g.id]at hp;refine zJ hp (fun m hS=>?_);refine go ?_;refine zJ (mX o g) (fun m hS=>?_);refine go ?_;refine RL.aU aa rfl hS rfl rfl ?_;(try clear hS);intro b5 m hS;refine ⟨_,rfl,?_⟩;refine go ?_;refine RL.er aa hS rfl rfl rfl rfl rfl YB YB JN YB ?_;(try clear hS);intro m hS;refine go ?_;have hw:IntKind.u64.wrap (((o.id.k+o.n:Nat):Int)-1)=((o.id.k+o.n-1:Nat):Int):=by rw [aq _ J9 J9];omega
 have hd:decide (((o.id.k+o.n-1:Nat):Int)>9007199254740991)=false:=zV J9;rw [hw,hd];refine go ?_;have hS:Tr m0 (au [aw]) X m [ab b5 167 (iR o),ab b3 55 (oC o),ab b1 55 (oC o),aw]:=hS;refine zG (Dt o) ?_;clear hS;rintro v m _ ⟨S,rfl⟩ hS;simp only [zC,zN]at hS;refine ⟨_,rfl,?_⟩;refine go ?_;refine zD (pq S v o.names [ab b5 167 (iR o)] 154 [pA b5] (fun _=>false) J1 (HC b5 o g)) ?_;clear hS;rintro _ m _ ⟨rfl,rfl⟩ hS;simp only [zC,zN]at hS;refine ⟨_,rfl,?_⟩;rw [show o.names.any (fun _=>false)=false by simp];refine go ?_;exact QN.aj rfl rfl ⟨_,rfl,[],⟨rfl,rfl⟩,hS.tail.tail.tail.tail.tail⟩
theorem Km(z:Nat)(h:Utf8.valid (z:Int)=true):Utf8.encode (z:Int)=str (Lib.encodeRune (z:Int)):=by
 have hv:z<55296∨(57344≤z∧z≤1114111):=by simp only [Utf8.valid,wS,wR,vY]at h;omega
 have u:∀(i:Int) (n:Nat),i=n→i.toNat.toUInt8=UInt8.ofNat n:=fun i n e=>by subst e;rfl
 unfold Utf8.encode Lib.encodeRune Lib.encodeRuneZ str;simp only [h,yT,Int.toNat_natCast]
 by_cases h1:z<128
 ·rw [yS h1,yS (show 0≤(z:Int)∧(z:Int)≤127 by omega)];simp
 rw [zX h1,zX (show¬(0≤(z:Int)∧(z:Int)≤127) by omega)]
 by_cases h2:z<2048
 ·rw [yS h2,yS (show 128≤(z:Int)∧(z:Int)≤2047 by omega)];simp [u (192+(z:Int)/64) (192+z/64) J9,u (128+(z:Int)%64) (128+z%64) J9]
 rw [zX h2,zX (show¬(128≤(z:Int)∧(z:Int)≤2047) by omega)]
 by_cases h3:z<65536
 ·rw [yS h3,yS (show(2048≤(z:Int)∧(z:Int)<55296)∨(57343<(z:Int)∧(z:Int)≤65535) by omega)];simp [u (224+(z:Int)/4096) (224+z/4096) J9,u (128+(z:Int)/64%64) (128+z/64%64) J9,u (128+(z:Int)%64) (128+z%64) J9]
 ·rw [zX h3,zX (show¬((2048≤(z:Int)∧(z:Int)<55296)∨(57343<(z:Int)∧(z:Int)≤65535)) by omega),yS (show 65536≤(z:Int)∧(z:Int)≤1114111 by omega)];simp [u (240+(z:Int)/262144) (240+z/262144) J9,u (128+(z:Int)/4096%64) (128+z/4096%64) J9,u (128+(z:Int)/64%64) (128+z/64%64) J9,u (128+(z:Int)%64) (128+z%64) J9]
theorem NF(l:List UInt8)(h0:l≠[])(h:(nx l).2≠0):Utf8.encode ((nx l).1:Int)=str (l.take (nx l).2):=by
 have hd:=ql l h;have hb:¬((Lib.decodeL l).1=65533∧(Lib.decodeL l).2=1):=fun hh=>by
  have:Lib.decodeL l=(65533,1):=Prod.ext hh.1 hh.2;exact h ((wy l h0).2 this)
 have he:=Lib.encode_decode l h0 hb;rw [hd,←he];refine Km _ ?_;rw [Lib.decodeL_N];have key:∀z:Nat,(z<55296∨(57344≤z∧z≤1114111))→Utf8.valid (z:Int)=true:=fun z hz=>by
  simp only [Utf8.valid,wS,wR,vY];omega
 refine key _ ?_;rcases Lib.decodeN_shape l.length (l.getD 0 0).toNat (l.getD 1 0).toNat (l.getD 2 0).toNat (l.getD 3 0).toNat with⟨c,e⟩|⟨c1,c2,c3,cv,e⟩|⟨c1,c2,c3,c4,cv,cs,e⟩|⟨c1,c2,c3,c4,c5,cv,cw,e⟩|e<;>rw [e]<;>simp only<;>omega
theorem tq:∀(n:Nat) (l:List UInt8) (r:List Nat),l.length≤n→aN l=some r→∀s:List UInt8,(r.map (fun z:Nat=>(z:Int))).foldl (fun a n=>a++Utf8.encode n) (str s)=str (s++l)
 |0,l,r,hl,h,s=>by
  have:l=[]:=List.length_eq_zero_iff.1 J9;subst this;cases h;simp
 |n+1,l,r,hl,h,s=>by
  by_cases h0:l=[]
  ·subst h0;cases h;simp
  ·rw [dR l h0]at h
   split at h
   ·cases h
   ·rename_i hw;obtain ⟨r',h1,rfl⟩:=xN.1 h;have VD:=(eX l h0).resolve_left hw;have ih:=tq n (l.drop (nx l).2) r' Jp h1 (s++l.take (nx l).2);rw [xK,xB,NF l h0 hw];have e:str s++str (l.take (nx l).2)=str (s++l.take (nx l).2):=by
     apply ByteArray.ext;simp [str]
    rw [e,ih,wM,yG]
theorem AM(b:Nat)(l:List UInt8)(r:List Nat)(hr:aN l=some r)(hl:l.length≤1000000):
  PS Tryz.prog 225 [pA b] (fun x:Nat×Nat=>[.int .i64 x.1,.int .i32 x.2]) (fun pre x=>x.1=pre.length∧r[pre.length]?=some x.2) (fun xs=>xs.length=r.length) (fun _ H=>ab b 9 [.string (str l)]∈H∧aw∈H):=by
 intro y I Ix m0 m M0 X H h0 hS gn hy;obtain ⟨hV,Xy⟩:=gn [] H h0;have iD:=gL _ l r (yP _) hr;have RQ:=nA l J9;rw [hr]at RQ;refine aP.zA Tryz.func225 ?_;refine go ?_;refine RL.iU aa hS rfl rfl rfl hV rfl rfl ?_;refine go ?_;refine RL.bU (fi:=[]) (ca:=[]) hS RQ rfl rfl rfl rfl (.ro Xy rfl .nil) rfl (fun m hS=>?_);refine go ?_;refine RL.iU aa hS rfl rfl rfl hV rfl rfl ?_;refine go ?_;refine RL.yi aa hS rfl rfl rfl ?_;clear hS;intro bi m hS;refine ⟨_,rfl,?_⟩;refine go ?_;refine (WP.loop (X:=List (Nat×Nat)×Nat×List az) (fun x=>[(0,.func (.yield y) #[] #[]),(1,pA b),(3,.int .i64 x.1.length),(10,.pointer (some ⟨bi,0,none⟩))])
  (fun x m'=>I x.1 x.2.2∧Tr m0 M0 X m' (Ff bi l x.2.1::x.2.2)∧x.2.1≤l.length∧aN (l.drop x.2.1)=some (r.drop x.1.length)∧x.1.length≤r.length) (fun x=>r.length-x.1.length) ([],0,H)
  YC ⟨h0,hS,yI _,hr,yI _⟩ ?_)
 clear hS h0 hV Xy;rintro ⟨pre,pos,H1⟩ m1 ⟨hI,hS,hle,sr,Yh⟩;dsimp only at hI hS hle sr Yh ⊢;refine go ?_;rcases tL hle with hp|hp
 ·have he:r.length=pre.length:=by
   rw [hp,List.drop_length,gM]at sr;have:=xZ (fun o=>(o.getD []).length) sr;simp at this;omega
  refine RL.Dd hS rfl rfl J9 (zS ..) rfl ?_;refine go ?_;refine WP.exit ?_;refine YH ?_;exact QN.kg rfl ⟨_,rfl,.inl ⟨pre,H1,he.symm,hI,hS.tail⟩⟩
 ·have dP:l.drop pos≠[]:=fun hh=>by have:=xZ List.length hh;rw [zZ,xE]at this;omega
  rw [dR _ dP]at sr
  split at sr
  ·cases sr
  rename_i hw;obtain ⟨r',h1,h2⟩:=xN.1 sr;have hd:Utf8.decode (str l) pos=nx (l.drop pos):=by
   rw [ql _ hw];show _=Utf8.decode (str (l.drop pos)) 0;have e2:str (l.drop pos)=(str l).extract pos (str l).size:=by
    rw [kC,bV,yD (yP _)]
   rw [e2,Lib.tail_decode,wJ]
  have VD:=(eX (l.drop pos) dP).resolve_left hw;rw [zZ]at VD;have hg:r[pre.length]?=some (nx (l.drop pos)).1:=by
   have:=xZ (fun z=>z[0]?) h2;simp only [wZ,vA,wJ]at this;exact this.symm
  have aM:=(yV.1 hg).1;have iQ:r.drop (pre.length+1)=r':=by
   have:=xZ (fun z=>z.drop 1) h2;simp only [List.drop_succ_cons,List.drop_zero,xL]at this;exact this.symm
  refine RL.C2 hS rfl rfl hp kq.head rfl ?_;clear hS;intro m hS;rw [hd]at hS ⊢;refine go ?_;refine RL.yield rfl rfl rfl (hy pre (pre.length,(nx (l.drop pos)).1) [Ff bi l (pos+(nx (l.drop pos)).2)] m H1 hI ⟨rfl,hg⟩ hS) ?_ ?_ ?_
  ·rintro v m2 ⟨H2,oN,hr⟩;clear hS;rcases hr with⟨he,sK⟩|⟨he,sK⟩<;>cases he
   ·refine aa1 ?_;have hS:=oN;refine go ?_;refine QN.round (pre++[(pre.length,(nx (l.drop pos)).1)],pos+(nx (l.drop pos)).2,H2) ?_ ⟨sK,hS,by show pos+(nx (l.drop pos)).2≤l.length;omega,by rw [←xL,h1,zY,uW,iQ],J6⟩ J6;refine Sub.C1 rfl (Sub.C1 rfl (Sub.C1 ?_ YC));show some (Value.int .i64 (IntKind.i64.wrap ((pre.length:Int)+1)))=some (.int .i64 ((pre++[(pre.length,(nx (l.drop pos)).1)]).length:Nat));rw [ag _ J9 J9];simp
   ·refine aa1 ?_;have hS:=oN;refine go ?_;exact QN.GK rfl ⟨_,rfl,.inr ⟨_,H2,sK,oN.tail⟩⟩
  ·rintro ch m2 ⟨H2,_,⟨he,_⟩|⟨he,_⟩⟩<;>cases he
  ·rintro m2 ⟨H2,_,⟨he,_⟩|⟨he,_⟩⟩<;>cases he
theorem DG(l:List UInt8):bu Tryz.prog 199 [.string (str l)] [] (fun v H=>∃b,v=.func (.func 225) #[] #[pA b]∧H=[ab b 9 [.string (str l)]]):=by
 intro m0 X hS;refine aP.zA Tryz.func199 ?_;refine aa5 ?_;intro b1 m hS;exact ah2
theorem _root_.Go.Ev.RL.zm{P:Program}{T:Ty}{ops:Array Oper}{Q:Exit→Act→World→Prop}{rest:List Oper}{n:Nat}{e e':Env}{D:Fr}{m0 m:World}{M0 X:List Nat}{H:List az}{d:Option Tmp}{x:Operand}{t t2 te ty:TypeId}{pos:String}{aft:Array Edge}{g:Option (Nat×Bool)}{rt r2 re:Row}
  {S:List Nat}{v:Value}{r:List Nat}{l:List UInt8}(hT:T.Ok P)(hS:Tr m0 M0 X m H)(dD:T.row t=some rt)(hk:rt.k=.kb te)(HI:T.row te=some re)(T8:re.k=.int .i32)(Bg:T.row t2=some r2)(sL:r2.k=.str)(hg:gd ops e ⟨d,.convert t t2 x,ty,pos,aft,g⟩=some true)
  (hx:e.ev x=some v)(hm:aF S te 1 v r.length (dM r)∈H)(hl:aN l=some r)(hp:aQ n d (.string (str l)) e=some e')(h:RL P ops Q rest n e' D m):RL P ops Q (⟨d,.convert t t2 x,ty,pos,aft,g⟩::rest) n e D m:=by
 refine RL.value _ hg (fun a w hf hs=>?_) hp h;have u1:=(hT.row dD).k;rw [hk]at u1;have u2:=(hT.row HI).k;rw [T8]at u2;have u3:=(hT.row Bg).k;rw [sL]at u3;have hb:runesBytes (r.map fun z:Nat=>(z:Int))=str l:=tq _ l r (yP _) hl [];obtain ⟨A,c,rfl,_⟩:=Ev.Own.shape (show Ev.Own m S te 1 v r.length (dM r) from hS.mem hm);have hc:=run_convert_runes_string (P:=P) w t t2 te A r.length c u1 u2 u3;have key:(Conv.runesToString (.slice A r.length c)).run P w=.ok (.string (str l)) w:=by
  cases A with
  |none=>
   rcases xR r.length with h0|h0
   ·have:r=[]:=List.length_eq_zero_iff.1 h0;subst this;rw [←hb];simp [Conv.runesToString,runesBytes]
   ·obtain ⟨g,c',hv,_⟩:=hS.dG hm h0;cases hv
  |some ad=>
   have h1:(loadCells ad (dM r).length).run P w=.ok (dM r).toArray w:=by
    refine run_loadCells_list w ad (dM r) fun j u hu=>?_
    have aM:=(yV.1 hu).1;rw [iu]at aM;have hR:=hS.aW hm;rw [hs.cell];exact hR.kA hu J8
   rw [iu]at h1;have:=run_runesToString (P:=P) w ad r.length c (r.map fun z:Nat=>(z:Int)) (by rw [h1,dM,uM];rfl);rw [this,hb]
 simp [execOp,hf.ev hx,hc,key]
theorem Rt(l:List UInt8)(r:List Nat)(hr:aN l=some r)(hl:l.length≤1000000):bu Tryz.prog 160 [.string (str l),.int .i64 0,.int .i64 r.length] [aw] (fun v H=>v=.string (str l)∧H=[]):=by
 intro m0 X hS;have iD:=gL _ l r (yP _) hr;refine aP.zB Tryz.func160 ?_;refine go ?_;refine RL.bn hS rfl rfl rfl ?_;(try clear hS);intro b4 m hS;refine ⟨_,rfl,?_⟩;refine go ?_;refine RL.bn hS rfl rfl rfl ?_;(try clear hS);intro b5 m hS;refine ⟨_,rfl,?_⟩;refine go ?_;refine RL.aU aa rfl hS rfl rfl ?_;(try clear hS);intro b7 m hS;refine ⟨_,rfl,?_⟩;refine go ?_;refine zF (DG l) ?_;clear hS;rintro _ m _ ⟨bx,rfl,rfl⟩ hS;simp only [zC,zN]at hS;refine ⟨_,rfl,?_⟩;refine go ?_;have hS:=hS.empty 21 1 none;refine WP.jt (β:=Unit) (fun x:Nat×Nat=>[.int .i64 x.1,.int .i32 x.2]) rfl (AM bx l r hr hl) ⟨_,Tryz.func225,J7,J7⟩ hS
  (fun pre H=>pre.length≤r.length∧∃S v,H=[aF S 21 1 v pre.length (dM (r.take pre.length)),ab bx 9 [.string (str l)],ab b7 182 [v],ab b5 3 [.int .i64 r.length],ab b4 3 [.int .i64 0],aw]) (fun _ _ _=>False) ⟨yI _,[],_,rfl⟩ ?_ _ (fun _=>rfl) (fun _=>rfl)
  (fun x _=>[(4,pA b4),(5,pA b5),(7,pA b7),(8,.int .i64 x.1),(9,.int .i32 x.2)]) (fun x _ G=>G=[]) ?_ ?_ ?_ ?_
 ·rintro pre H C ⟨_,S,v,rfl⟩;simp
 ·intro y C pre x G m1 H1 _ _ hS;refine go ?_;exact QN.qE () [] YC hS rfl
 ·rintro y C pre x _ _ G m2 _ ⟨N0,S,v,rfl⟩ ⟨sN,mH⟩ rfl hS;have hS:=hS.mK;simp only [zC,zN]at hS;obtain ⟨x1,x2⟩:=x;obtain rfl:x1=pre.length:=sN;have aM:=(yV.1 mH).1;have PB:pre.length<r.length:=aM;have hd:decide ((pre.length:Int)≥0)=true:=zW J9;have ug:decide ((pre.length:Int)<(r.length:Int))=true:=zW J9;refine go ?_;rw [hd];refine go ?_;rw [ug];refine go ?_;refine RL.dh aa hS [.tmp 23] (dM [x2]) rfl rfl rfl rfl rfl rfl rfl rfl rfl (by simp [Value.cells,dM]) JX Jz (qX _) Jy (by show(_+_)*4≤_;omega) ?_;clear hS;intro b v' m S' hS;obtain ⟨A',c',rfl,_⟩:=hS.shape;refine ⟨_,rfl,?_⟩;refine go ?_;refine RL.aO aa hS rfl rfl rfl rfl YB YB JN YB ?_;(try clear hS);intro m hS;refine go ?_;have e:r.take (pre.length+1)=r.take pre.length++[x2]:=by
   rw [wB,mH];rfl
  refine QN.fY ((hS.perm (.swap ..)).perm (xI (l₁:=C::aF S' 21 1 (.slice A' (pre.length+1) c') (pre.length+1) (dM (r.take pre.length)++dM [x2])::ab bx 9 [.string (str l)]::ab b7 182 [.slice A' (pre.length+1) c']::ab b5 3 [.int .i64 r.length]::ab b4 3 [.int .i64 0]::[aw]))) ⟨J6,S',.slice A' (pre.length+1) c',?_⟩;simp [e,dM]
 ·rintro B rr xs m' _ qa ⟨_,S,v,rfl⟩ hS;rw [qa,wF]at hS;refine go ?_;refine RL.zm aa hS rfl rfl rfl rfl rfl rfl rfl rfl (show aF S 21 1 v r.length (dM r)∈_ from JQ) hr rfl ?_;refine go ?_;refine QN.jq (r:=.string (str l)) (.inl rfl) hS (fun m' hS=>?_);exact ⟨bY.tmp rfl rfl,⟨_,rfl,[],⟨rfl,rfl⟩,hS.tail.tail.tail.tail.tail.tail⟩⟩
 ·exact fun _ _ _ _ _ _ h _=>h.elim
def a6.clean(o:a6):a6:={o with v:=o.v.clean}
theorem Good.clean{o:a6}(g:Good o):Good o.clean where
 id:=g.id
 top:=g.top
 names:=g.names
 own:=g.own
 small:=g.small
 kind:=by
  have hz:Vl.zero.clean=Vl.zero:=by simp [Vl.clean,Vl.zero,ef,qC]
  rcases g.kind with⟨h1,h2,h3,h4,h5,h6,h7⟩|⟨h1,h2,h3⟩|⟨h1,h2,h3⟩|⟨h1,h2,h3⟩
  ·exact .inl ⟨h1,h2,h3,h4,h5,by show o.v.clean=_;rw [h6,hz],h7⟩
  ·exact .inr (.inl ⟨h1,h2.clean,h3⟩)
  ·exact .inr (.inr (.inl ⟨h1,h2.clean,h3⟩))
  ·exact .inr (.inr (.inr ⟨h1,h2.clean,h3⟩))
theorem OF(o:a6)(g:Good o):ee Tryz.prog 124 [oV o,.int .i64 0,.int .i64 o.n] [aw] (.tuple #[oV o.clean,.bool true]):=by
 intro m0 X hS;have hn:=g.gq;have xw:=g.vq;have ht:=g.top;have hd:decide ((0:Int)≥(o.n:Int))=false:=zV J9;have Mf:decide ((o.n:Int)>(o.n:Int))=false:=zV J9;refine aP.zA Tryz.func124 ?_;refine go ?_;refine RL.bn hS rfl rfl rfl ?_;(try clear hS);intro b3 m hS;refine ⟨_,rfl,?_⟩;refine go ?_;refine RL.aU aa rfl hS rfl rfl ?_;(try clear hS);intro b6 m hS;refine ⟨_,rfl,?_⟩;refine go ?_;rw [hd];refine go ?_;refine zJ (qF o g) (fun m hS=>?_);refine go ?_;rw [Mf];refine go ?_;refine zJ (rD o.v) (fun m hS=>?_);refine go ?_;refine RL.er aa hS rfl rfl rfl rfl rfl YB YB JN YB ?_;(try clear hS);intro m hS;have hS:Tr m0 (au [aw]) X m [ab b6 55 _,ab b3 55 (oC o.clean),aw]:=hS;refine go ?_
 by_cases hk:o.k=1
 ·have IK:((o.k:Int)!=1)=false:=by simp;omega
  have hr:(aN o.t).isSome=true:=by
   rcases g.kind with h|h|h|h
   ·exact h.2.1
   all_goals omega
  obtain ⟨r,hr⟩:=uL.1 hr;have Zd:o.n=r.length:=by rw [a6.n,yS hk,hr];rfl
  rw [show((o.clean.k:Int)!=1)=false from IK];refine go ?_;rw [Zd];refine zJ (Rt o.t r hr g.small) (fun m hS=>?_);refine aj0 ?_;intro m hS;refine go ?_;have hid:=g.id;simp only [aL.right,num,wR,vY]at hid;have hw:IntKind.u64.wrap ((o.clean.id.k:Int)+IntKind.u64.wrap 0)=(o.clean.id.k:Int):=by
   have e:o.clean.id.k=o.id.k:=rfl;rw [e,aq 0 J9 J9,aq _ J9 J9];omega
  rw [hw];refine aa4 ?_;intro m hS;refine ag5 ?_;intro m hS;have hS:Tr m0 (au [aw]) X m [ab b6 55 (oC o.clean),ab b3 55 (oC o.clean),aw]:=hS;exact QN.bH (bY.cg aa hS rfl rfl rfl rfl JQ) ⟨_,rfl,[],⟨rfl,rfl⟩,hS.tail.tail.tail⟩
 ·have IK:((o.k:Int)!=1)=true:=by simp;omega
  rw [show((o.clean.k:Int)!=1)=true from IK];refine ag5 ?_;intro m hS;have hS:Tr m0 (au [aw]) X m [ab b6 55 (oC o.clean),ab b3 55 (oC o.clean),aw]:=hS;exact QN.bH (bY.cg aa hS rfl rfl rfl rfl JQ) ⟨_,rfl,[],⟨rfl,rfl⟩,hS.tail.tail.tail⟩
open Go.SeqP
theorem BN(l:List UInt8)(hl:l.length<1000000000):ee Tryz.prog 49 [.string (str l)] [] (.int .i64 ((aN l).getD []).length):=by
 intro m0 X hS;refine aP.zA Tryz.func49 ?_;refine ah ?_;refine RL.cM (mv l hl) ?_;clear hS;rintro _ m _ ⟨v,S,rfl,rfl⟩ hS;obtain ⟨A,c,rfl,_⟩:=Ev.Own.shape (show Ev.Own m S 21 1 v _ _ from hS.head);refine aa7 ?_;exact ai3
theorem k9(l:List UInt8)(hl:l.length<1000000000):ee Tryz.prog 50 [.string (str l)] [] (.bool (aN l).isSome):=B0 l hl
theorem M8(l:List UInt8)(r:List Nat)(hr:aN l=some r)(h1:1≤r.length)(hl:l.length<1000000000):ee Tryz.prog 148 [.string (str l),.int .i64 0,.int .i64 r.length] [] (.string (str l)):=by
 intro m0 X hS;have iD:=gL _ l r (yP _) hr;refine aP.zA Tryz.func148 ?_;refine ah ?_;refine RL.cM (mv l hl) ?_;clear hS;rintro _ m _ ⟨v,S,rfl,rfl⟩ hS;rw [hr]at hS;simp only [uD,vI]at hS;obtain ⟨g,c,rfl,rfl,hc,_⟩:=hS.dG (zS ..) J9;refine ⟨_,rfl,?_⟩;refine ah ?_;rw [show(if(0:Int)>0 then(0:Int)else 0)=0 by simp,show(if(r.length:Int)<(r.length:Int)then(r.length:Int)else(r.length:Int))=(r.length:Int) by simp];rw [zV (show¬(0:Int)≥(r.length:Int) by omega)];refine ah ?_;refine RL.KA (l:=0) (q:=r.length) aa rfl rfl rfl rfl rfl rfl rfl (yI _) hc rfl ?_;refine RL.eqv (v':=.slice (some ⟨g,0,none⟩) r.length c) (by rw [zX J9];simp [Addr.add]) ?_;refine RL.zm aa hS rfl rfl rfl rfl rfl rfl rfl rfl (zS ..) hr rfl ?_;refine ah ?_;exact QN.aj rfl rfl ⟨_,rfl,[],⟨rfl,rfl⟩,hS.tail⟩
theorem Ky(f:Nat):ee Tryz.prog 99 [.float .f64 f] [] (.int .u64 (ef f)):=by
 intro m0 X hS;refine aP.zA Tryz.func99 ?_;refine ah ?_;cases h:sO f with
 |true=>
  rw [show(FloatKind.f64.format.order f f !=some .eq)=true from h];refine ah ?_;exact QN.aj rfl rfl ⟨_,rfl,[],⟨by rw [ef,yS h];rfl,rfl⟩,hS⟩
 |false=>
  rw [show(FloatKind.f64.format.order f f !=some .eq)=false from h];refine ah ?_;refine ad9 ?_;refine ah ?_;exact QN.aj rfl rfl ⟨_,rfl,[],⟨by rw [ef,zX (by rw [h];simp)],rfl⟩,hS⟩
theorem Vl.Ok.YS{v:Vl}(h:v.Ok)(hk:v.k≠3):v.clean=v:=by
 have h0:ef 0=0:=by simp [ef,qC]
 obtain ⟨k,n,f,s⟩:=v;have hf:f=0:=by
  rcases h with⟨_,_,h3,_⟩|⟨_,_,h3,_⟩|⟨_,_,h3,_⟩|⟨_,h3,_⟩|⟨h1,_⟩|⟨_,_,h3,_⟩
  all_goals first|exact h3|exact absurd h1 hk
 subst hf;simp [Vl.clean,h0]
theorem rR(v:Vl)(h:v.Ok):ee Tryz.prog 51 [vV v] [] (vV v.clean):=by
 intro m0 X hS;refine aP.zA Tryz.func51 ?_;refine ah ?_
 (try clear hS);intro b1 m hS;refine aa7 ?_
 (try clear hS);intro b2 m hS;refine aa7 ?_
 by_cases hk:v.k=3
 ·rw [show((v.k:Int)==3)=true by rw [hk];rfl];refine ah ?_;refine RL.cU (Ky v.f) fun m hS=>?_
  refine ah ?_;refine RL.ext (v:=.float .f64 (ef v.f)) (ex:=Extern.MathFloatBits.float64frombits) Tryz.func98 rfl rfl rfl rfl rfl rfl rfl (fun w=>rfl) rfl ?_;refine ah ?_
  (try clear hS);intro m hS;refine ah ?_
  (try clear hS);intro m hS;refine ah ?_
  exact QN.bH (bY.MI aa hS rfl rfl rfl JR) ⟨_,rfl,[],⟨rfl,rfl⟩,hS.tail.tail⟩
 ·rw [show((v.k:Int)==3)=false by simpa using(by omega:¬(v.k:Int)=3)];refine ah ?_
  (try clear hS);intro m hS;refine ah ?_
  exact QN.bH (bY.MI aa hS rfl rfl rfl JQ) ⟨_,rfl,[],⟨by rw [h.YS hk];rfl,rfl⟩,hS.tail.tail⟩
theorem je(i:aL):ee Tryz.prog 104 [iV i] [] (.bool (decide (i=O0))):=by
 intro m0 X hS;refine aP.zA Tryz.func104 ?_;refine ah ?_
 (try clear hS);intro b1 m hS;refine aa7 ?_
 refine RL.binOp (cX i O0) (aY _ _ _ _ _) rfl rfl rfl rfl ?_;refine ah ?_;exact ab6
theorem ku(i:aL):ee Tryz.prog 103 [iV i] [] (.bool (named i)):=by
 intro m0 X hS;refine aP.zA Tryz.func103 ?_;refine ah ?_
 (try clear hS);intro b1 m hS;refine aa7 ?_
 refine RL.cU (je i) fun m hS=>?_
 by_cases h:i=O0
 ·rw [zW h];refine ah ?_;exact QN.aj rfl rfl ⟨_,rfl,[],⟨by simp [named,h],rfl⟩,hS.tail⟩
 ·rw [zV h];refine ah ?_;refine RL.cU (kK i) fun m hS=>?_
  refine ah ?_;exact QN.aj rfl rfl ⟨_,rfl,[],⟨by simp [named,h],rfl⟩,hS.tail⟩
theorem Ii(k:List UInt8)(h:nY k):ee Tryz.prog 106 [.string (str k)] [] (.bool true):=by
 intro m0 X hS;obtain ⟨h1,h2,h3⟩:=h;refine aP.zA Tryz.func106 ?_;refine ai0 ?_;rw [zW (show(k.length:Int)≥1 by omega)];refine ai0 ?_;rw [zW (show(k.length:Int)≤64 by omega)];refine ah ?_;refine RL.cU (k9 k J9) fun m hS=>?_
 refine ah ?_;exact QN.aj rfl rfl ⟨_,rfl,[],⟨by rw [h3],rfl⟩,hS⟩
theorem Cw(k:List UInt8)(h:nY k):ee Tryz.prog 54 [.string (str k)] [] (.bool true):=by
 intro m0 X hS;obtain ⟨h1,h2,h3⟩:=h;refine aP.zA Tryz.func54 ?_;refine ai0 ?_;rw [zW (show(k.length:Int)≥1 by omega)];refine ai0 ?_;rw [zW (show(k.length:Int)≤64 by omega)];refine ah ?_;refine RL.cU (k9 k J9) fun m hS=>?_
 refine ah ?_;exact QN.aj rfl rfl ⟨_,rfl,[],⟨by rw [h3],rfl⟩,hS⟩
theorem mE(o:a6)(h:o.t.length<1000000000):ee Tryz.prog 108 [oV o] [] (.int .i64 o.n):=by
 intro m0 X hS;refine aP.zA Tryz.func108 ?_;refine ah ?_
 (try clear hS);intro b1 m hS;refine aa7 ?_
 by_cases hk:o.k=1
 ·rw [show((o.k:Int)==1)=true by rw [hk];rfl];refine ah ?_;refine RL.cU (BN o.t h) fun m hS=>?_
  refine ah ?_;exact QN.aj rfl rfl ⟨_,rfl,[],⟨by rw [a6.n,yS hk],rfl⟩,hS.tail⟩
 ·rw [show((o.k:Int)==1)=false by simpa using(by omega:¬(o.k:Int)=1)];refine ah ?_;exact QN.aj rfl rfl ⟨_,rfl,[],⟨by rw [a6.n,zX hk];rfl,rfl⟩,hS.tail⟩
theorem bP(o:a6):(oC o).length=22:=rfl
theorem CN(x:aG):(rC x).length=3:=rfl
abbrev dO(v:Value)(l:List a6):az:=bW 22 v (l.flatMap oC)
abbrev qk(v:Value)(l:List aG):az:=bW 3 v (l.flatMap rC)
def ke:a6:=⟨O0,0,0,O0,O0,[],.zero,[],O0,⟨O0,false⟩,⟨O0,false⟩⟩
abbrev AG(mm:Nat)(vl vh:Value)(ML:List a6)(MH:List aG)(F:List az):List az:=ab mm 134 [vl,vh]::dO vl ML::qk vh MH::F
def Z0(mm:Nat)(ML:List a6)(MH:List aG)(L:List az):Prop:=∃vl vh,L=AG mm vl vh ML MH []
abbrev q8(mm:Nat)(ML:List a6)(MH:List aG):az:=vz [mm] (Z0 mm ML MH)
theorem qf{m0 m:World}{M0 X:List Nat}{F:List az}{mm:Nat}{ML:List a6}{MH:List aG}(h:Tr m0 M0 X m (q8 mm ML MH::F)):∃vl vh,Tr m0 M0 X m (AG mm vl vh ML MH F):=by
 obtain ⟨L,⟨vl,vh,rfl⟩,hS⟩:=h.open;exact ⟨vl,vh,hS⟩
theorem fN{m0 m:World}{M0 X:List Nat}{F:List az}{mm:Nat}{vl vh:Value}{ML:List a6}{MH:List aG}(h:Tr m0 M0 X m (AG mm vl vh ML MH F)):Tr m0 M0 X m (q8 mm ML MH::F):=
 Tr.close (L:=AG mm vl vh ML MH []) h ⟨vl,vh,rfl⟩
theorem gC:∀L:List a6,(L.flatMap oC).length=L.length*22
 |[]=>rfl
 |o::L=>by rw [vH,zY,gC L,bP,yF,xQ];omega
theorem nO(l:List a6):∀u∈l.flatMap oC,u.oneCell'=true:=fun u hu=>by
 obtain ⟨a,_,ha⟩:=vS.1 hu;simp only [oC,yH,uT,uU]at ha;rcases ha with rfl|rfl|rfl|rfl|rfl|rfl|rfl|rfl|rfl|rfl|rfl|rfl|rfl|rfl|rfl|rfl|rfl|rfl|rfl|rfl|rfl|rfl<;>rfl
theorem KJ(l:List aG):∀u∈l.flatMap rC,u.oneCell'=true:=fun u hu=>by
 obtain ⟨a,_,ha⟩:=vS.1 hu;simp only [rC,yH,uT,uU]at ha;rcases ha with rfl|rfl|rfl<;>rfl
theorem C5:∀L:List aG,(L.flatMap rC).length=L.length*3
 |[]=>rfl
 |o::L=>by rw [vH,zY,C5 L,CN,yF,xQ];omega
theorem Wf(mm:Nat)(vl vh:Value)(ML:List a6)(L:List az)(hm:ab mm 134 [vl,vh]∈L)(hl:dO vl ML∈L)(ep:ML.length≤1000000)(id:aL):bu Tryz.prog 151 [pA mm,iV id] L (fun r H=>(∃q,r=.bool q)∧H=L):=by
 intro m0 X hS;obtain ⟨M0,bR⟩:=zP (au L);rw [←bR]at hS ⊢;have hN:=hm;obtain ⟨A,c,rfl,_,_,hA⟩:=Sl.gY oC bP (hS.bE hl) J8;refine aP.zA Tryz.func151 ?_;refine ah ?_
 (try clear hS);intro b3 m hS;refine aa7 ?_
 refine (WP.loop (X:=Nat) (fun i=>[(0,pA mm),(3,pA b3),(5,.int .i64 i)]) (fun i m'=>i≤ML.length∧Tr m0 M0 X m' (ab b3 30 (iC id)::L)) (fun i=>ML.length-i) 0
  YC ⟨yI _,hS⟩ ?_)
 clear hS;rintro i m ⟨hi,hS⟩;refine ah ?_;rcases xA i ML.length with aM|fW
 ·rw [zW (show(i:Int)<(ML.length:Int) by omega)];obtain ⟨o,ho⟩:=zQ aM;obtain ⟨ad,rfl⟩:=hA i o ho;have hw:IntKind.i64.wrap ((i:Int)+1)=((i+1:Nat):Int):=by rw [ag _ J9 J9];simp
  refine ah ?_;refine ae2 ?_;refine RH.fg aa ai.calm oC bP (JS.bE (zO _ hl)) ho 0 (iC o.id) rfl rfl rfl J7 rfl rfl rfl Jm rfl rfl rfl ?_;refine aZ ?_;refine RH.bin (cX o.id id) (aY _ _ _ _ _) ?_;cases hq:decide (o.id=id)with
  |false=>
   refine ah ?_;rw [hw];exact ag0
  |true=>
   refine aZ ?_;refine RH.kh aa ai.calm oC bP (JS.bE (zO _ hl)) ho 9 rfl rfl J7 rfl rfl rfl Jm rfl rfl rfl ?_;refine aZ ?_;cases hk:((o.v.k:Int)==5)with
   |false=>
    refine ah ?_;rw [hw];exact ag0
   |true=>
    exact ae4
 ·rw [zV (show¬(i:Int)<(ML.length:Int) by omega)];refine ah ?_;refine RL.binOp (cX id ⟨0,0⟩) (aY _ _ _ _ _) rfl rfl rfl rfl ?_;exact ae4
theorem Di(mm:Nat)(ML:List a6)(MH:List aG)(f1:ML.length≤100000)(f2:MH.length≤1000000):bu Tryz.prog 60 [pA mm] [q8 mm ML MH] (fun r H=>∃m2,r=pA m2∧H=[q8 m2 ML MH,q8 mm ML MH]):=by
 intro m0 X hS;obtain ⟨M0,bR⟩:=zP (au [q8 mm ML MH]);rw [←bR]at hS ⊢;obtain ⟨vl,vh,hS⟩:=qf hS;obtain ⟨A,c,rfl,_,_,_⟩:=Sl.gY oC bP (hS.bE (show dO vl ML∈_ from JQ)) J8;obtain ⟨B,c2,rfl,_,_,_⟩:=Sl.gY rC CN (hS.bE (show qk vh MH∈_ from JQ)) J8;refine aP.zA Tryz.func60 ?_;refine ah ?_;refine ad8 ?_;refine ab2 ?_;have h1:=hS.bE (show dO (.slice A ML.length c) ML∈_ from JQ);refine RL.dx aa (hS.empty 55 22 none) (ML.flatMap oC) (k:=ML.length) rfl rfl rfl rfl rfl .head (Src.cS h1) (gC _) (nO _) Jy (by show(0+ML.length)*200≤_;omega) ?_;clear hS h1;intro v1 m S1 hS;rw [yC,zU]at hS;refine ⟨_,rfl,?_⟩;refine RL.N1 (RH.aD hS (an.ay fun _ h=>zO _ h) ?_);obtain ⟨A1,d1,rfl,_⟩:=Ev.Own.shape (show Ev.Own m S1 55 22 v1 _ _ from hS.head);refine aZ ?_;refine RH.one rfl J7 rfl ?_;have h1:=hS.bE (show qk (.slice B MH.length c2) MH∈_ from JQ);refine RL.dx aa (hS.empty 167 3 none) (MH.flatMap rC) (k:=MH.length) rfl rfl rfl rfl rfl .head (Src.cS h1) (C5 _) (KJ _) Jy (by show(0+MH.length)*24≤_;omega) ?_;clear hS h1;intro v2 m S2 hS;rw [yC,zU]at hS;refine ⟨_,rfl,?_⟩;refine RL.N1 (RH.aD hS (an.ay fun _ h=>zO _ (zO _ h)) ?_);obtain ⟨A2,d2,rfl,_⟩:=Ev.Own.shape (show Ev.Own m S2 167 3 v2 _ _ from hS.head);refine ah ?_
 (try clear hS);intro m2 m hS;refine aa7 ?_
 refine QN.aj rfl rfl ⟨_,rfl,_,⟨m2,rfl,rfl⟩,?_⟩;have hS:=(hS.Xn (S:=S2) JN J8).Xn (S:=S1) JN J8;have hS:=(hS.aH (Pre:=AG m2 (.slice A1 ML.length d1) (.slice A2 MH.length d2) ML MH (AG mm (.slice A ML.length c) (.slice B MH.length c2) ML MH [])) JC).drop;exact (fN (F:=[q8 m2 ML MH]) ((fN hS).perm (xI (l₁:=[q8 m2 ML MH]) (l₂:=AG mm _ _ ML MH [])))).perm (.swap ..)
theorem Sz(mm:Nat)(ML:List a6)(MH:List aG)(o:a6)(ep:ML.length≤100000):bu Tryz.prog 117 [pA mm,oV o] [q8 mm ML MH] (fun r H=>∃(q:Bool) (ML':List a6),r=.bool q∧(ML'=ML∨ML'=ML++[o])∧H=[q8 mm ML' MH]):=by
 intro m0 X hS;obtain ⟨M0,bR⟩:=zP (au [q8 mm ML MH]);rw [←bR]at hS ⊢;obtain ⟨vl,vh,hS⟩:=qf hS;obtain ⟨A,c,rfl,jW,_,hA⟩:=Sl.gY oC bP (hS.bE (show dO vl ML∈_ from JQ)) J8;have no:∀{m:World} {A':az},Tr m0 M0 X m (A'::AG mm (.slice A ML.length c) vh ML MH [])→Tr m0 M0 X m [q8 mm ML MH]:=fun h=>fN h.tail
 refine aP.zA Tryz.func117 ?_;refine ah ?_
 (try clear hS);intro b3 m hS;refine aa7 ?_
 cases hk:((o.k:Int)!=4)with
 |true=>
  exact af4
 |false=>
 refine ah ?_;refine RL.cU (kK o.id) fun m hS=>?_
 cases hr:o.id.right with
 |false=>
  exact af4
 |true=>
 refine ah ?_;refine RL.cM (Wf mm (.slice A ML.length c) vh ML _ JQ JQ J9 o.p) ?_ (hs:=bk.self (ab b3 55 (oC o)::AG mm (.slice A ML.length c) vh ML MH []));clear hS;rintro _ m _ ⟨⟨q,rfl⟩,rfl⟩ hS;simp only [vI]at hS;refine aa1 ?_;cases q with
 |false=>
  exact af4
 |true=>
 refine ah ?_;refine (WP.loop (X:=Nat) (fun i=>[(0,pA mm),(3,pA b3),(5,.int .i64 i)]) (fun i m'=>i≤ML.length∧Tr m0 M0 X m' (ab b3 55 (oC o)::AG mm (.slice A ML.length c) vh ML MH [])) (fun i=>ML.length-i) 0
  YC ⟨yI _,hS⟩ ?_)
 clear hS;rintro i m ⟨hi,hS⟩;refine ah ?_;rcases xA i ML.length with aM|fW
 ·rw [zW (show(i:Int)<(ML.length:Int) by omega)];obtain ⟨x,hx⟩:=zQ aM;obtain ⟨ad,rfl⟩:=hA i x hx;have hw:IntKind.i64.wrap ((i:Int)+1)=((i+1:Nat):Int):=by rw [ag _ J9 J9];simp
  refine ah ?_;refine ae2 ?_;refine RH.fg aa ai.calm oC bP (JS.bE JQ) hx 0 (iC x.id) rfl rfl rfl J7 rfl rfl rfl Jm rfl rfl rfl ?_;refine aZ ?_;refine RH.bin (cX x.id o.id) (aY _ _ _ _ _) ?_;cases hq:decide (x.id=o.id)with
  |false=>
   refine ah ?_;rw [hw];exact ag0
  |true=>
   exact af4
 ·rw [zV (show¬(i:Int)<(ML.length:Int) by omega)];refine ah ?_;refine ad8 ?_;refine RH.nP aa ai.calm 15 (lo:=ML.length) (q:=ML.length) rfl J7 rfl rfl rfl rfl rfl rfl rfl (yP _) jW rfl ?_;refine aZ ?_;refine ab2 ?_;refine RL.aA aa hS [.tmp 58] (us:=[oV o]) (oC o) rfl rfl rfl rfl rfl rfl JO rfl rfl rfl ?_;clear hS;intro b9 m hS;refine aa1 ?_;refine ac7 ?_;refine ab2 ?_;have pL:=(hS.bE (show dO (.slice A ML.length c) ML∈_ from JQ)).upto (l:=ML.length) (k:=ML.length) (yP _) (yP _) jW;rw [yD (by rw [gC];omega)]at pL;have h9:Sl m [] 22 (.slice (some ⟨b9,0,none⟩) 1 1) (oC o):=hS.aW (zS ..);refine RL.lg aa hS (oC o) (k:=1) pL rfl rfl rfl rfl rfl rfl (Src.cS h9) rfl Jy (by show(_+1)*200≤_;omega) ?_;clear hS pL h9;intro v10 m S10 hS;rw [show ML.flatMap oC++oC o=(ML++[o]).flatMap oC by simp]at hS;obtain ⟨A10,c10,rfl,_⟩:=Ev.Own.shape (show Ev.Own m S10 55 22 v10 _ _ from hS.head);refine ⟨_,rfl,?_⟩;refine RL.N1 (RH.aD hS (an.ay fun _ h=>zO _ (zO _ h)) ?_);refine aZ ?_
  (try clear hS);intro m hS
  refine ab9 ?_;refine ah ?_;refine QN.aj rfl rfl ⟨_,rfl,_,⟨_,ML++[o],rfl,.inr rfl,rfl⟩,?_⟩;have hS:=hS.freeze J8;exact fN (hS.aH (Pre:=AG mm (.slice A10 (ML.length+1) c10) vh (ML++[o]) MH []) JC).drop
theorem F7(m:World)(b:Nat)(o:a6)(i:aL)(hB:bw m b 55 (oC o)):dg Tryz.prog 202 [iV i,pA b] m fun r m'=>r=.bool (decide (i=O0)||decide (i.c=o.id.c))∧Ext m [] m':=by
 have hS:Tr m [] [] m []:=Tr.start (H:=[]) ⟨fun A h=>(by cases h),uP,fun k h=>(by cases h)⟩ (fun k h=>(by cases h));refine dg.mono (post:=fun v m'=>v=.bool (decide (i=O0)||decide (i.c=o.id.c))∧Tr m [] [] m' []) ?_ fun _ _ h=>⟨h.1,h.2.ext⟩
 refine aP.zA Tryz.func202 ?_;refine go ?_;refine ag1 ?_;intro b2 m hS;refine RL.binOp (cX i ⟨0,0⟩) (aY _ _ _ _ _) rfl rfl rfl rfl ?_
 by_cases h0:i=O0
 ·rw [zW (show i=⟨0,0⟩ from h0),zW h0];refine go ?_;exact QN.aj rfl rfl ⟨_,rfl,rfl,hS.tail⟩
 ·rw [zV (show¬i=⟨0,0⟩ from h0),zV h0];refine go ?_;refine RL.load aa rfl rfl rfl ((hB.ext hS.ext YA).cell 0 rfl) rfl ?_;refine go ?_;have e:((i.c:Int)==(o.id.c:Int))=decide (i.c=o.id.c):=by rw [uZ];simp;omega
  rw [e];exact QN.aj rfl rfl ⟨_,rfl,YA,hS.tail⟩
def a6.cY(o:a6):List aL:=o.names.filter fun i=>!(decide (i=O0)||decide (i.c=o.id.c))
theorem KZ(o:a6):bu Tryz.prog 163 [oV o] [] (fun r H=>∃S,H=[bf S r o.cY]):=by
 intro m0 X hS;refine aP.zA Tryz.func163 ?_;refine aa5 ?_;intro b1 m hS;refine zG (Dt o) ?_;clear hS;rintro v m _ ⟨S,rfl⟩ hS;simp only [zC,zN]at hS;refine ab4 ?_;have hO:Ev.Own m S 30 2 v o.names.length (o.names.flatMap iC):=hS.head;have hB:bw m b1 55 (oC o):=hS.mem (A:=ab b1 55 (oC o)) YA;have WV:b1∉S:=fun hh=>by
  have:=hS.hold.nd;rw [aS,aS]at this;exact (yN.1 this).2.2 b1 hh b1 (by simp [ab]) rfl
 refine zM (E0 m S v o.names hO J1 202 [pA b1] (fun i=>decide (i=O0)||decide (i.c=o.id.c)) (fun m1=>bw m1 b1 55 (oC o)) hB (fun a b h hE=>h.ext hE WV) (fun m1 i h=>F7 m1 b1 o i h)) ?_;rintro r m' ⟨Yy,hE⟩;have hS:=hS.grow Yy hE (bp.refl _ _);refine ⟨_,rfl,?_⟩;refine go ?_;exact QN.aj rfl rfl ⟨_,rfl,_,⟨S,rfl⟩,(hS.perm (.swap ..)).tail⟩
theorem Hx(l:List UInt8)(hl:l.length≤1000000000000)(h:(aN l).isSome=true):ee Tryz.prog 222 [.string (str l)] [aw] (.int .i64 ((aN l).getD []).length):=by
 intro m X hS;obtain ⟨r,hr⟩:=uL.1 h;refine ⟨⟨_,Tryz.func222,J7,J7⟩,fun w hs=>?_⟩;refine (Any.utf8_RuneCountInString Tryz.count (str l) w (by rw [bV];omega)).mono fun e w' ⟨he,pos,hb⟩=>?_
 subst hb;refine ⟨m.alloc (.stringIter (str l) pos),hs.alloc _,_,he,[],⟨by rw [k6 _ _ _ (yP _) hr,hr];rfl,rfl⟩,Tr.drop (H:=[]) (F:=[aw]) (hS.calm ((gD.alloc m _).new (yP _)))⟩
theorem LW(l:List UInt8)(hl:l.length≤1000000000000):ee Tryz.prog 192 [.string (str l)] [aw] (.int .i64 ((aN l).getD []).length):=by
 intro m0 X hS;have hc:=nA l J9;refine aP.zA Tryz.func192 ?_;refine go ?_;refine zJ hc (fun m hS=>?_);cases h:(aN l).isSome with
 |true=>
  refine go ?_;refine zJ (Hx l hl h) (fun m hS=>?_);refine go ?_;exact ab6
 |false=>
  refine go ?_;have:aN l=none:=by cases hr:aN l with
   |none=>rfl
   |some r=>rw [hr]at h;cases h
  exact QN.aj rfl rfl ⟨_,rfl,[],⟨by rw [this];rfl,rfl⟩,hS.tail⟩
theorem xc(o:a6)(hl:o.t.length≤1000000000000):ee Tryz.prog 158 [oV o] [aw] (.int .i64 o.n):=by
 intro m0 X hS;refine aP.zA Tryz.func158 ?_;refine aa5 ?_;intro b1 m hS
 by_cases hk:o.k=1
 ·have hd:((o.k:Int)==1)=true:=by simp;omega
  rw [hd];refine go ?_;refine zJ (LW o.t hl) (fun m hS=>?_);refine go ?_;exact QN.aj rfl rfl ⟨_,rfl,[],⟨by rw [a6.n,yS hk],rfl⟩,hS.tail.tail⟩
 ·have hd:((o.k:Int)==1)=false:=by simp;omega
  rw [hd];refine go ?_;exact QN.aj rfl rfl ⟨_,rfl,[],⟨by rw [a6.n,zX hk];rfl,rfl⟩,hS.tail.tail⟩
def EY(o:a6):Int:=IntKind.u64.wrap ((o.id.k:Int)+IntKind.u64.wrap (o.n:Int))
def C7(o:a6):List Value:=[.int .u64 o.id.c,.int .u64 o.id.k,.int .u64 (EY o)]
theorem tT(o:a6)(hl:o.t.length≤1000000000000):ee Tryz.prog 122 [oV o] [aw] (.agg (C7 o).toArray):=by
 intro m0 X hS;refine aP.zA Tryz.func122 ?_;refine aa5 ?_;intro b1 m hS;refine ac3 ?_;clear hS;intro b2 m hS;refine aa1 ?_;refine RL.N1 (YJ ?_);refine YK ?_;refine WP.nM [ab b1 55 (oC o),aw] hS JD rfl J7 ?_;refine go ?_;refine zK (xc o hl) (fun m hS=>?_);refine go ?_;refine ab2 ?_;refine aa2 ?_;intro m hS;refine ab9 ?_;refine go ?_;have hS:Tr m0 (au [aw]) X m [ab b2 167 (C7 o),ab b1 55 (oC o),aw]:=hS;exact QN.bH (bY.MI aa hS rfl rfl rfl JQ) ⟨_,rfl,[],⟨rfl,rfl⟩,hS.tail.tail.tail⟩
theorem DW(a b:a6)(ha:a.t.length≤1000000000000):bu Tryz.prog 226 [oV a,oV b] [aw] (fun r H=>(∃q:Bool,r=.bool q)∧H=[]):=by
 intro m0 X hS;have fin:∀{m:World} {b1 b2 b5:Nat},Tr m0 (au [aw]) X m [ab b5 167 (C7 a),ab b2 55 (oC b),ab b1 55 (oC a),aw]→Tr m0 (au [aw]) X m []:=fun h=>h.tail.tail.tail.tail
 refine aP.zA Tryz.func226 ?_;refine aa5 ?_;intro b1 m hS;refine ag1 ?_;intro b2 m hS;refine zJ (tT a ha) (fun m hS=>?_);refine go ?_;refine ac3 ?_;(try clear hS);intro b5 m hS;refine ab4 ?_;refine aa2 ?_;intro m hS;have hS:Tr m0 (au [aw]) X m [ab b5 167 (C7 a),ab b2 55 (oC b),ab b1 55 (oC a),aw]:=hS;refine go ?_;generalize ((a.k:Int)==1)=q1;cases q1 with
 |false=>
  exact ad7
 |true=>
 refine go ?_;generalize ((b.k:Int)==1)=q2;cases q2 with
 |false=>
  exact ad7
 |true=>
 refine go ?_;generalize ((a.id.c:Int)==(b.id.c:Int))=q3;cases q3 with
 |false=>
  exact ad7
 |true=>
 refine go ?_;generalize ((b.id.k:Int)==EY a)=q4;cases q4 with
 |false=>
  exact ad7
 |true=>
 refine go ?_;obtain ⟨z,hz⟩:∃z:Nat,IntKind.u64.wrap (EY a-1)=(z:Int):=⟨(IntKind.u64.wrap (EY a-1)).toNat,by rw [wrap_u64];omega⟩;rw [hz];refine RL.binOp (cX b.l ⟨a.id.c,z⟩) (aY _ _ _ _ _) rfl rfl rfl rfl ?_;generalize decide (b.l=(⟨a.id.c,z⟩:aL))=q5;cases q5 with
 |false=>
  exact ad7
 |true=>
 refine go ?_;refine RL.binOp (cX a.r b.r) (aY _ _ _ _ _) rfl rfl rfl rfl ?_;exact ad7
theorem Nz(a b:a6)(ha:a.t.length≤1000000000000)(hb:b.t.length≤1000000000000):bu Tryz.prog 205 [oV a,oV b] [aw] (fun r H=>(∃q:Bool,r=.bool q)∧H=[]):=by
 intro m0 X hS;refine aP.zA Tryz.func205 ?_;refine aa5 ?_;intro b1 m hS;refine ag1 ?_;intro b2 m hS;refine zL (DW a b ha) ?_;clear hS;rintro _ m _ ⟨⟨q,rfl⟩,rfl⟩ hS;simp only [yC]at hS;refine ⟨an.self _,_,rfl,?_⟩;cases q with
 |false=>
  refine go ?_;exact QN.aj rfl rfl ⟨_,rfl,[],⟨⟨_,rfl⟩,rfl⟩,hS.tail.tail.tail⟩
 |true=>
 refine go ?_;refine RH.bU (fi:=[]) (ca:=[]) hS (xc a ha) rfl J7 rfl rfl rfl rfl rfl JB (an.self _) rfl (fun m hS=>?_);refine go ?_;refine RH.bU (fi:=[]) (ca:=[]) hS (xc b hb) rfl J7 rfl rfl rfl rfl rfl JB (an.self _) rfl (fun m hS=>?_);refine go ?_;exact QN.aj rfl rfl ⟨_,rfl,[],⟨⟨_,rfl⟩,rfl⟩,hS.tail.tail.tail⟩
theorem _root_.Go.Ev.RL.Ei{P:Program}{T:Ty}{ops:Array Oper}{Q:Exit→Act→World→Prop}{rest:List Oper}{n:Nat}{e e':Env}{D:Fr}{m0 m:World}{M0 X:List Nat}{H:List az}{d:Option Tmp}{x:Operand}{t t2 te ty:TypeId}{pos:String}{aft:Array Edge}{g:Option (Nat×Bool)}{rt r2 re:Row}
  {S:List Nat}{v:Value}{r:List Nat}(hT:T.Ok P)(hS:Tr m0 M0 X m H)(dD:T.row t=some rt)(hk:rt.k=.kb te)(HI:T.row te=some re)(T8:re.k=.int .i32)(Bg:T.row t2=some r2)(sL:r2.k=.str)(hg:gd ops e ⟨d,.convert t t2 x,ty,pos,aft,g⟩=some true)
  (hx:e.ev x=some v)(hm:aF S te 1 v r.length (dM r)∈H)(hp:aQ n d (.string (str (runesBytes (r.map fun z:Nat=>(z:Int))).data.toList)) e=some e')(h:RL P ops Q rest n e' D m):RL P ops Q (⟨d,.convert t t2 x,ty,pos,aft,g⟩::rest) n e D m:=by
 have u1:=(hT.row dD).k;rw [hk]at u1;have u2:=(hT.row HI).k;rw [T8]at u2;have u3:=(hT.row Bg).k;rw [sL]at u3;have hb:str (runesBytes (r.map fun z:Nat=>(z:Int))).data.toList=runesBytes (r.map fun z:Nat=>(z:Int)):=by simp [str]
 rw [hb]at hp;refine RL.value _ hg (fun a w hf hs=>?_) hp h;obtain ⟨A,c,rfl,_⟩:=Ev.Own.shape (show Ev.Own m S te 1 v r.length (dM r) from hS.mem hm);have hc:=run_convert_runes_string (P:=P) w t t2 te A r.length c u1 u2 u3;have key:(Conv.runesToString (.slice A r.length c)).run P w=.ok (.string (runesBytes (r.map fun z:Nat=>(z:Int)))) w:=by
  cases A with
  |none=>
   rcases xR r.length with h0|h0
   ·have:r=[]:=List.length_eq_zero_iff.1 h0;subst this;simp [Conv.runesToString,runesBytes]
   ·obtain ⟨g,c',hv,_⟩:=hS.dG hm h0;cases hv
  |some ad=>
   have h1:(loadCells ad (dM r).length).run P w=.ok (dM r).toArray w:=by
    refine run_loadCells_list w ad (dM r) fun j u hu=>?_
    have aM:=(yV.1 hu).1;rw [iu]at aM;have hR:=hS.aW hm;rw [hs.cell];exact hR.kA hu J8
   rw [iu]at h1;have:=run_runesToString (P:=P) w ad r.length c (r.map fun z:Nat=>(z:Int)) (by rw [h1,dM,uM];rfl);rw [this]
 simp [execOp,hf.ev hx,hc,key]
theorem O9(l:List UInt8)(r:List Nat)(hr:aN l=some r)(hl:l.length≤1000000)(f t:Int):bu Tryz.prog 160 [.string (str l),.int .i64 f,.int .i64 t] [aw] (fun v H=>(∃l',v=.string (str l')∧l'.length≤4*l.length)∧H=[]):=by
 intro m0 X hS;have iD:=gL _ l r (yP _) hr;refine aP.zB Tryz.func160 ?_;refine go ?_;refine RL.bn hS rfl rfl rfl ?_;(try clear hS);intro b4 m hS;refine ⟨_,rfl,?_⟩;refine go ?_;refine RL.bn hS rfl rfl rfl ?_;(try clear hS);intro b5 m hS;refine ⟨_,rfl,?_⟩;refine go ?_;refine RL.aU aa rfl hS rfl rfl ?_;(try clear hS);intro b7 m hS;refine ⟨_,rfl,?_⟩;refine go ?_;refine zF (DG l) ?_;clear hS;rintro _ m _ ⟨bx,rfl,rfl⟩ hS;simp only [zC,zN]at hS;refine ⟨_,rfl,?_⟩;refine go ?_;have hS:=hS.empty 21 1 none;refine WP.jt (β:=Unit) (fun x:Nat×Nat=>[.int .i64 x.1,.int .i32 x.2]) rfl (AM bx l r hr hl) ⟨_,Tryz.func225,J7,J7⟩ hS
  (fun pre H=>pre.length≤r.length∧∃S v q,q.length≤pre.length∧H=[aF S 21 1 v q.length (dM q),ab bx 9 [.string (str l)],ab b7 182 [v],ab b5 3 [.int .i64 t],ab b4 3 [.int .i64 f],aw]) (fun _ _ _=>False) ⟨yI _,[],_,[],yP _,rfl⟩ ?_ _ (fun _=>rfl) (fun _=>rfl)
  (fun x _=>[(4,pA b4),(5,pA b5),(7,pA b7),(8,.int .i64 x.1),(9,.int .i32 x.2)]) (fun x _ G=>G=[]) ?_ ?_ ?_ ?_
 ·rintro pre H C ⟨_,S,v,q,_,rfl⟩;simp
 ·intro y C pre x G m1 H1 _ _ hS;refine go ?_;exact QN.qE () [] YC hS rfl
 ·rintro y C pre x _ _ G m2 _ ⟨N0,S,v,q,hq,rfl⟩ ⟨sN,mH⟩ rfl hS;have hS:=hS.mK;simp only [zC,zN]at hS;obtain ⟨x1,x2⟩:=x;obtain rfl:x1=pre.length:=sN;have aM:=(yV.1 mH).1;have PB:pre.length<r.length:=aM;have skip:∀{m:World},Tr m0 (au [aw]) X m (C::aF S 21 1 v q.length (dM q)::ab bx 9 [.string (str l)]::ab b7 182 [v]::ab b5 3 [.int .i64 t]::ab b4 3 [.int .i64 f]::aw::G)→
    Tr m0 (au [aw]) X m (G++C::[aF S 21 1 v q.length (dM q),ab bx 9 [.string (str l)],ab b7 182 [v],ab b5 3 [.int .i64 t],ab b4 3 [.int .i64 f],aw]):=fun h=>
   h.perm (xI (l₁:=C::aF S 21 1 v q.length (dM q)::ab bx 9 [.string (str l)]::ab b7 182 [v]::ab b5 3 [.int .i64 t]::ab b4 3 [.int .i64 f]::[aw]))
  refine go ?_;generalize decide ((pre.length:Int)≥f)=q1;cases q1 with
  |false=>
   refine go ?_;exact QN.fY (skip hS) ⟨J6,S,v,q,J6,rfl⟩
  |true=>
  refine go ?_;generalize decide ((pre.length:Int)<t)=q2;cases q2 with
  |false=>
   refine go ?_;exact QN.fY (skip hS) ⟨J6,S,v,q,J6,rfl⟩
  |true=>
  refine go ?_;refine RL.dh aa hS [.tmp 23] (dM [x2]) rfl rfl rfl rfl rfl rfl rfl rfl rfl (by simp [Value.cells,dM]) JX Jz (qX _) Jy (by show(_+_)*4≤_;omega) ?_;clear hS;intro b v' m S' hS;obtain ⟨A',c',rfl,_⟩:=hS.shape;refine ab4 ?_;refine aa4 ?_;intro m hS;refine go ?_;refine QN.fY ((hS.perm (.swap ..)).perm (xI (l₁:=C::aF S' 21 1 (.slice A' (q.length+1) c') (q.length+1) (dM q++dM [x2])::ab bx 9 [.string (str l)]::ab b7 182 [.slice A' (q.length+1) c']::ab b5 3 [.int .i64 t]::ab b4 3 [.int .i64 f]::[aw]))) ⟨J6,S',.slice A' (q.length+1) c',q++[x2],J6,?_⟩;simp [dM]
 ·rintro B rr xs m' _ qa ⟨_,S,v,q,hq,rfl⟩ hS;refine go ?_;refine RL.Ei aa hS rfl rfl rfl rfl rfl rfl rfl rfl (show aF S 21 1 v q.length (dM q)∈_ from JQ) rfl ?_;refine go ?_;refine QN.jq (r:=.string (str (runesBytes (q.map fun z:Nat=>(z:Int))).data.toList)) (.inl rfl) hS (fun m' hS=>?_);refine ⟨bY.tmp rfl rfl,⟨_,rfl,[],⟨⟨_,rfl,?_⟩,rfl⟩,hS.tail.tail.tail.tail.tail.tail⟩⟩;have h1:=runesBytes_size_le (q.map fun z:Nat=>(z:Int));have h2:(runesBytes (q.map fun z:Nat=>(z:Int))).data.toList.length=(runesBytes (q.map fun z:Nat=>(z:Int))).size:=by rw [uX];rfl
  rw [uF]at h1;omega
 ·exact fun _ _ _ _ _ _ h _=>h.elim
theorem KO(o:a6)(g:Good o)(w:Nat)(hw:0<w)(jb:w≤1000000):bu Tryz.prog 124 [oV o,.int .i64 w,.int .i64 o.n] [aw] (fun r H=>(∃o' q,r=.tuple #[oV o',.bool q]∧o'.t.length≤10000000)∧H=[]):=by
 intro m0 X hS;have hn:=g.gq;have xw:=g.vq;have ht:=g.top;have so:decide ((w:Int)<0)=false:=zV J9;have Mf:decide ((o.n:Int)>(o.n:Int))=false:=zV J9;refine aP.zA Tryz.func124 ?_;refine go ?_;refine RL.bn hS rfl rfl rfl ?_;(try clear hS);intro b3 m hS;refine ⟨_,rfl,?_⟩;refine go ?_;refine RL.aU aa rfl hS rfl rfl ?_;(try clear hS);intro b6 m hS;refine ⟨_,rfl,?_⟩;refine go ?_;rw [so];refine go ?_;rcases xA w o.n with WZ|WZ
 ·have hd:decide ((w:Int)≥(o.n:Int))=false:=zV J9;have hk:o.k=1:=by
   by_cases hk:o.k=1
   ·exact hk
   ·rw [a6.n,zX hk]at WZ;omega
  have hr:(aN o.t).isSome=true:=by
   rcases g.kind with h|h|h|h
   ·exact h.2.1
   all_goals omega
  obtain ⟨r,hr⟩:=uL.1 hr;rw [hd];refine go ?_;refine zJ (qF o g) (fun m hS=>?_);refine go ?_;rw [Mf];refine go ?_;refine zJ (rD o.v) (fun m hS=>?_);refine go ?_;refine aa2 ?_;intro m hS;have hS:Tr m0 (au [aw]) X m [ab b6 55 _,ab b3 55 (oC o.clean),aw]:=hS;refine go ?_;rw [show((o.clean.k:Int)!=1)=false by have:o.clean.k=1:=hk;simp [this]];refine go ?_;refine zD (O9 o.t r hr g.small w o.n) ?_;clear hS;rintro _ m _ ⟨⟨l',rfl,vg⟩,rfl⟩ hS;simp only [yC]at hS;refine ⟨_,rfl,?_⟩;refine go ?_;refine RL.aO aa hS rfl rfl rfl rfl YB YB JN YB ?_;(try clear hS);intro m hS;refine go ?_;have hid:=g.id;simp only [aL.right,num,wR,vY]at hid;have Vx:IntKind.u64.wrap ((o.clean.id.k:Int)+IntKind.u64.wrap (w:Int))=((o.id.k+w:Nat):Int):=by
   have e:o.clean.id.k=o.id.k:=rfl;rw [e,aq (w:Int) J9 J9,aq _ J9 J9];omega
  have IK:decide ((w:Int)>0)=true:=zW J9;rw [Vx];refine RL.aO aa hS rfl rfl rfl rfl YB YB JN YB ?_;(try clear hS);intro m hS;refine go ?_;rw [IK];refine go ?_;have Uk:IntKind.u64.wrap (((o.id.k+w:Nat):Int)-1)=((o.id.k+w-1:Nat):Int):=by rw [aq _ J9 J9];omega
  rw [Uk];refine aa2 ?_;intro m hS;refine ag5 ?_;intro m hS;obtain ⟨o',Gu⟩:=zP ({o.clean with id:=⟨o.id.c,o.id.k+w⟩,l:=⟨o.id.c,o.id.k+w-1⟩,t:=l'}:a6);have hS:Tr m0 (au [aw]) X m [ab b6 55 (oC o'),ab b3 55 (oC o'),aw]:=by rw [Gu];exact hS
  have jg:=g.small;exact QN.bH (bY.cg aa hS rfl rfl rfl rfl JQ) ⟨_,rfl,[],⟨⟨o',true,rfl,by rw [Gu];show l'.length≤_;omega⟩,rfl⟩,hS.tail.tail.tail⟩
 ·have hd:decide ((w:Int)≥(o.n:Int))=true:=zW J9;rw [hd];refine go ?_;refine RL.er aa hS rfl rfl rfl rfl rfl YB YB JN YB ?_;(try clear hS);intro m hS;refine go ?_;obtain ⟨o',Gu⟩:=zP (⟨O0,0,0,O0,O0,[],.zero,[],O0,⟨O0,false⟩,⟨O0,false⟩⟩:a6);have hS:Tr m0 (au [aw]) X m [ab b6 55 (oC o'),ab b3 55 (oC o),aw]:=by rw [Gu];exact hS
  exact QN.bH (bY.cg aa hS rfl rfl rfl rfl JQ) ⟨_,rfl,[],⟨⟨o',false,rfl,by rw [Gu];simp⟩,rfl⟩,hS.tail.tail.tail⟩
def nU(n:Nat):Value:=.int .u64 n
theorem qG:zq Tryz.prog 28 nU where
 desc:=⟨_,Tryz.underlying28,.inl fun a b=>by simp only [nU,Instr.sameNow,yT,yJ];rw [uZ];simp;omega⟩
 eq:=fun a b w _ _=>by
  have u37:=Tryz.underlying28;simp only [nU,Op.equal,Op.maxDepth];rw [show(10000:Nat)=9999+1 from rfl];unfold Op.equalIn;simp [run_underlying u37];rw [uZ];simp;omega
 Lw:=fun z a w=>by
  have u37:=Tryz.underlying28;rw [show(10000:Nat)=9999+1 from rfl];unfold Instr.checkKey;simp only [Sem.run_bind,run_underlying u37,Result.andThen_ok,Sem.run_pure]
 bits:=fun a=>by simp [Instr.sameBits,nU]
structure Sr where
 c:Nat
 S:List Nat
 v:Value
 L:List a6
abbrev lY(S:List Nat)(v:Value)(L:List a6):az:=aF S 55 22 v L.length (L.flatMap oC)
def Sr.A(r:Sr):az:=lY r.S r.v r.L
def jP(R:List Sr):List (Nat×Value):=R.map fun r=>(r.c,r.v)
abbrev CE(s rm:Nat)(w1 w2:Value)(R:List Sr)(F:List az):List az:=ab s 213 [.map (some rm),w1,w2]::mapA rm nU (jP R)::(R.map Sr.A++F)
def D1(B:Nat)(R:List Sr):Prop:=∀r∈R,0<r.L.length∧r.L.length≤B∧∀o∈r.L,o.t.length≤10000000*(B+1)
def Uo(s B:Nat)(L:List az):Prop:=∃rm w1 w2 R,L=ab s 213 [.map (some rm),w1,w2]::mapA rm nU (jP R)::R.map Sr.A∧D1 B R
abbrev pN(S:List Nat)(s B:Nat):az:=vz S (Uo s B)
theorem xg{m0 m:World}{M0 X:List Nat}{F:List az}{S:List Nat}{s B:Nat}(h:Tr m0 M0 X m (pN S s B::F)):∃rm w1 w2 R,D1 B R∧Tr m0 M0 X m (CE s rm w1 w2 R F):=by
 obtain ⟨L,⟨rm,w1,w2,R,rfl,k⟩,hS⟩:=h.open;exact ⟨rm,w1,w2,R,k,hS⟩
theorem gK{m0 m:World}{M0 X:List Nat}{F:List az}{s B rm:Nat}{w1 w2:Value}{R:List Sr}(k:D1 B R)(h:Tr m0 M0 X m (CE s rm w1 w2 R F)):∃S,Tr m0 M0 X m (pN S s B::F):=
 ⟨_,Tr.close (L:=ab s 213 [.map (some rm),w1,w2]::mapA rm nU (jP R)::R.map Sr.A) h ⟨rm,w1,w2,R,rfl,k⟩⟩
theorem DP(c:Nat):∀R:List Sr,(bj (jP R) c=none)∨∃R1 r R2,R=R1++r::R2∧r.c=c∧bj (jP R) c=some r.v
 |[]=>.inl rfl
 |r::R=>by
  by_cases h:r.c=c
  ·exact .inr ⟨[],r,R,rfl,h,by simp [jP,bj,h]⟩
  ·have e:bj (jP (r::R)) c=bj (jP R) c:=by simp [jP,bj,h]
   rw [e];rcases DP c R with h1|⟨R1,r',R2,rfl,h2,h3⟩
   ·exact .inl h1
   ·exact .inr ⟨r::R1,r',R2,rfl,h2,h3⟩
theorem Db(S:List Nat)(s B c:Nat)(hB:B≤10000):bu Tryz.prog 203 [pA s,nU c] [aw,pN S s B] (fun r H=>(∃n:Nat,r=nU n∧n<18446744073709551616)∧∃S',H=[pN S' s B]):=by
 intro m0 X hS;have hS:=hS.perm (.swap ..);obtain ⟨rm,w1,w2,R,k,hS⟩:=xg hS;refine aP.zA Tryz.func203 ?_;refine go ?_;rcases DP c R with h|⟨R1,r,R2,rfl,hc,h⟩
 ·refine RL.lookup (κ:=Nat) (k:=c) (es:=jP R) (v:=.slice none 0 0) aa hS qG rfl rfl rfl rfl rfl rfl JQ (by rw [h];rfl) rfl ?_;refine go ?_;obtain ⟨S',hS⟩:=gK k hS;exact QN.aj rfl rfl ⟨_,rfl,_,⟨⟨0,rfl,J8⟩,S',rfl⟩,hS.drop (H:=[_])⟩
 ·refine RL.lookup (κ:=Nat) (k:=c) (es:=jP (R1++r::R2)) (v:=r.v) aa hS qG rfl rfl rfl rfl rfl rfl JQ (by rw [h];rfl) rfl ?_;have hm:aF r.S 55 22 r.v r.L.length (r.L.flatMap oC)∈CE s rm w1 w2 (R1++r::R2) [aw]:=by simp [Sr.A]
  obtain ⟨fh,hlen,mJ⟩:=k r YA;obtain ⟨g,cp,hv,_,_,_⟩:=hS.dG hm fh;have fQ:=hS.aW hm;rw [hv]at fQ ⊢;obtain ⟨o,ho⟩:∃o,r.L[r.L.length-1]?=some o:=⟨_,xW J9⟩;have hot:=mJ o (xU ho);have hd:((r.L.length:Int)==0)=false:=uN.2 J9;have hw:IntKind.i64.wrap ((r.L.length:Int)-1)=((r.L.length-1:Nat):Int):=by rw [ag _ J9 J9];omega
  refine go ?_;rw [hd];refine go ?_;rw [hw];refine RL.indexAddr (k:=r.L.length-1) aa rfl rfl rfl rfl rfl rfl rfl J9 rfl ?_;refine RL.o8 aa oC (fun _=>rfl) fQ ho rfl rfl rfl rfl rfl ?_;refine go ?_;refine RL.bU (fi:=[]) (ca:=[]) hS (tT o J9) rfl rfl rfl rfl (.ro YA rfl .nil) rfl (fun m hS=>?_);refine go ?_;refine RL.field aa rfl rfl rfl rfl rfl rfl rfl rfl ?_;refine go ?_;obtain ⟨S',hS⟩:=gK k hS;obtain ⟨z,hz⟩:∃z:Nat,IntKind.u64.wrap (EY o-1)=(z:Int)∧z<18446744073709551616:=⟨(IntKind.u64.wrap (EY o-1)).toNat,by rw [wrap_u64];omega,by rw [wrap_u64];omega⟩;exact QN.aj rfl rfl ⟨_,rfl,_,⟨⟨z,by rw [hz.1];rfl,hz.2⟩,S',rfl⟩,hS.drop (H:=[_])⟩
end Go.Proofs.YtgpgladbdoimdaaGreatDoor
