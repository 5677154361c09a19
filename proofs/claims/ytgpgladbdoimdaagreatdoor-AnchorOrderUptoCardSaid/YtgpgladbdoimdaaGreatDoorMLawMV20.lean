/- Texts that belong together. -/
import Derived.Test.YtgpgladbdoimdaaGreatDoorMLawMV15
namespace Go.Proofs.YtgpgladbdoimdaaGreatDoor
open Go.ChangeShapes Go.WideShapes Go.ChangeAt Go.RowKit Go.Ev Go.Ids Go.SeqP
set_option maxRecDepth 20000
set_option maxHeartbeats 1000000
abbrev jA(S:List Nat)(v:Value)(l:List Nat):az:=aF S 3 1 v l.length (l.flatMap jC)
abbrev jR(v:Value)(l:List Nat):az:=bW 1 v (l.flatMap jC)
def kG(N:List RM)(O:List Nat)(B:List Nat)(x:Un):Nat:=(B.takeWhile fun i=>match N[i]?with|some r=>kD N O r.d.u x|none=>false).length
theorem CA(L:List az)(s:Nat)(N:List RM)(O:List Nat)(v vm vo vb:Value)(hV:x7 L s N O v vm vo)(B:List Nat)(hB:Vw L 1 vb (B.flatMap jC))(hl:N.length≤1000000)(hO:O.length≤1000000)(Hh:B.length≤1000000)(ZD:∀i∈B,i<N.length)(me:Nat)(y:RM)(hy:N[me]?=some y):
  bu Tryz.prog 189 [pA s,vb,.int .i64 me] L (fun r H=>∃S,H=jA S r (aB (kG N O B y.d.u) me B)::L):=by
 intro m0 X hS;obtain ⟨M0,bR⟩:=zP (au L);rw [←bR]at hS ⊢;obtain ⟨A,c,rfl,hc,kl,hA⟩:=Sl.gY jC dL (hB.at_ hS) J8;have zp:kG N O B y.d.u≤B.length:=Us.cW _ _;refine aP.zA Tryz.func189 ?_;refine ah ?_;refine (WP.loop (X:=Nat) (fun i=>[(0,pA s),(1,.slice A B.length c),(2,.int .i64 me),(7,.int .i64 i)])
  (fun i m'=>i≤kG N O B y.d.u∧Tr m0 M0 X m' L) (fun i=>B.length-i) 0
  YC ⟨yI _,hS⟩ ?_)
 clear hS;rintro i m ⟨hi,hS⟩;dsimp only at hi hS ⊢;have ze:=Us.jQ (fun i=>match N[i]?with|some r=>kD N O r.d.u y.d.u|none=>false) B (k:=kG N O B y.d.u) rfl;have done:i=kG N O B y.d.u→∀{m:World},Tr m0 M0 X m L→True:=fun _ _ _=>trivial
 refine ah ?_;rcases xA i B.length with aM|fW
 ·rw [zW (show(i:Int)<(B.length:Int) by omega)];obtain ⟨b,hb⟩:=zQ aM;obtain ⟨ad,rfl⟩:=hA i b hb;obtain ⟨r,hr⟩:∃r,N[b]?=some r:=⟨_,xW (ZD b (xU hb))⟩;refine ah ?_;refine RL.kh aa jC dL (hB.at_ hS) hb 0 rfl rfl rfl rfl rfl rfl rfl ?_;refine ah ?_;refine RL.cL (E4 L s N O v vm vo hV hl hO b me r y hr hy) fun m hS=>?_
  cases ha:kD N O r.d.u y.d.u with
  |true=>
   refine ah ?_;have hw:IntKind.i64.wrap ((i:Int)+1)=((i+1:Nat):Int):=by rw [ag _ J9 J9];simp
   rw [hw];have dP:i<kG N O B y.d.u:=by
    rcases xA i (kG N O B y.d.u)with h|h
    ·exact h
    ·obtain rfl:i=kG N O B y.d.u:=by omega
     have:=ze.2 b hb;simp only [hr,ha]at this;cases this
   exact QN.round (i+1) YC ⟨dP,hS⟩ J9
  |false=>
   have he:i=kG N O B y.d.u:=by
    rcases xA i (kG N O B y.d.u)with h|h
    ·have:=ze.1 b (xU (by rw [xV,yS h,hb]));simp only [hr,ha]at this;cases this
    ·omega
   subst he;refine ah ?_;refine RL.cM (rJ L _ B hB _ me zp Hh) ?_ (hs:=bk.self _);clear hS;rintro w m _ ⟨S,rfl⟩ hS;simp only [vI]at hS;refine aa7 ?_;exact QN.aj rfl rfl ⟨_,rfl,_,⟨S,rfl⟩,hS⟩
 ·rw [zV (show¬(i:Int)<(B.length:Int) by omega)];obtain rfl:i=kG N O B y.d.u:=by omega
  refine ah ?_;refine RL.cM (rJ L _ B hB _ me zp Hh) ?_ (hs:=bk.self _);clear hS;rintro w m _ ⟨S,rfl⟩ hS;simp only [vI]at hS;refine aa7 ?_;exact QN.aj rfl rfl ⟨_,rfl,_,⟨S,rfl⟩,hS⟩
theorem gQ:∀f:Fo,f.roots.length≤f.flat.length
 |.nil=>yI _
 |.cons i l r n=>by
  have:=gQ n;simp only [Fo.roots,Fo.flat,yF,zY]at this ⊢;omega
def gu(N:List RM):List (Value×List Value):=N.flatMap fun r=>[(r.vl,r.d.A.flatMap jC),(r.vm,r.d.B.flatMap jC)]
theorem qt{N:List RM}{i:Nat}{r:RM}(h:N[i]?=some r):(r.vl,r.d.A.flatMap jC)∈gu N∧(r.vm,r.d.B.flatMap jC)∈gu N:=
 ⟨vS.2 ⟨r,xU h,YA⟩,vS.2 ⟨r,xU h,YA⟩⟩
theorem NM(s:Nat)(N:List RM)(v vm vo:Value):∀(n:Nat) (f:Fo) (L:List az) (S:List Nat) (vl vw:Value) (out:List Nat),f.sz=n→ab s 162 [v,vm,vo]∈L→Vw L 10 v (N.flatMap fV)→ey 1 (gu N)∈L→Vw L 1 vl (f.roots.flatMap jC)→Rf (N.map (·.d)) f→out.length+f.sz≤1000000→
  bu Tryz.prog 190 [pA s,vl,vw] (jA S vw out::L) (fun r H=>∃S',H=jA S' r (out++f.flat)::L):=by
 intro n
 induction n using Nat.strongRecOn with
 |_ n ih=>
 intro f L S vl vw out hn hb hV hk hx hf Y8 m0 X hS;obtain ⟨M0,bR⟩:=zP (au (jA S vw out::L));rw [←bR]at hS ⊢;have hN:ab s 162 [v,vm,vo]∈jA S vw out::L:=zO _ hb;obtain ⟨A,c,rfl,hc,kl,hA⟩:=Sl.gY jC dL (hx.cons.at_ hS) J8;obtain ⟨B,c2,rfl,_,_,hB⟩:=Sl.gY fV bD (hV.cons.at_ hS) J8;have iD:f.roots.length≤1000000:=wG (gQ f) (by have:f.flat.length=f.sz:=rfl;omega);refine aP.zA Tryz.func190 ?_;refine ah ?_;clear hN;refine (WP.loop (X:=Fo×Nat×List Nat×Value×List Nat) (fun z=>[(0,pA s),(1,.slice A f.roots.length c),(2,z.2.2.2.1),(7,.int .i64 z.2.1)])
  (fun z m'=>f.roots.drop z.2.1=z.1.roots∧z.2.2.2.2++z.1.flat=out++f.flat∧Rf (N.map (·.d)) z.1∧z.1.sz≤n∧Tr m0 M0 X m' (jA z.2.2.1 z.2.2.2.1 z.2.2.2.2::L)) (fun z=>f.roots.length-z.2.1) (f,0,S,vw,out)
  YC ⟨rfl,rfl,hf,Nat.le_of_eq hn,hS⟩ ?_)
 clear hS hf;rintro ⟨g,j,S1,v1,o1⟩ m ⟨h1,h2,hf,cz,hS⟩;dsimp only at h1 h2 hf cz hS ⊢;have hN:ab s 162 [.slice B N.length c2,vm,vo]∈jA S1 v1 o1::L:=zO _ hb;have hlen:=xZ List.length h1;rw [zZ]at hlen;have E7:=xZ List.length h2;rw [zY,zY]at E7;have hfs:f.flat.length=f.sz:=rfl;have hgs:g.flat.length=g.sz:=rfl;refine ah ?_;cases g with
 |nil=>
  simp only [Fo.roots,xE]at hlen;rw [zV (show¬(j:Int)<(f.roots.length:Int) by omega)];refine ah ?_;have e:o1=out++f.flat:=by rw [←h2];simp [Fo.flat]
  subst e;exact QN.aj rfl rfl ⟨_,rfl,_,⟨S1,rfl⟩,hS⟩
 |cons i l r g=>
  simp only [Fo.roots,yF]at hlen;simp only [Fo.sz,Fo.flat,zY,yF]at E7 cz;have hj:f.roots[j]?=some i:=by
   have:=xZ (fun l=>l[0]?) h1
   simpa [Fo.roots]using this
  obtain ⟨⟨d,hd,oa,Yp⟩,kd,Qs,Zq⟩:=hf;obtain ⟨q,hq⟩:∃q,N[i]?=some q:=by
   rw [xM]at hd;obtain ⟨q,h,_⟩:=xN.1 hd;exact ⟨q,h⟩
  have Z2:q.d=d:=by rw [xM,hq]at hd;exact yR hd
  subst Z2;obtain ⟨k1,k2⟩:=qt hq;have iA:=(yV.1 hq).1;obtain ⟨ad,rfl⟩:=hA j i hj;obtain ⟨ad2,rfl⟩:=hB i q hq;rw [zW (show(j:Int)<(f.roots.length:Int) by omega)];refine ah ?_;refine WP.bG L hS (an.ay fun _ h=>zO _ h) J7 ?_;have hN:=hb;refine aZ ?_;refine RH.kh aa ai.calm jC dL (Vw.js hx) hj 0 rfl rfl J7 rfl rfl rfl rfl rfl rfl rfl ?_;refine aZ ?_;refine RH.kh aa ai.calm fV bD (Vw.js hV) hq 8 rfl rfl J7 rfl rfl rfl Jm rfl rfl rfl ?_;refine aZ ?_;have oN:=hS.mf (zO _ hk) k1;rw [oa]at oN;refine RH.cM (ih l.sz (by have:l.flat.length=l.sz:=rfl;omega) l (jR q.vl l.roots::L) S1 q.vl v1 o1 rfl (zO _ hb) hV.cons (zO _ hk) (Vw.ro (zS ..)) kd (by have:l.flat.length=l.sz:=rfl;omega)) ?_ (hS:=oN) (hs:=.own (.tail .head) (bk.self _));clear hS oN;rintro w m _ ⟨S2,rfl⟩ hS;rw [vI]at hS ⊢;refine ⟨an.ay fun _ h=>zO _ (zO _ h),_,rfl,?_⟩;have hS:=(hS.perm (List.Perm.swap ..)).tail;have hN:ab s 162 [.slice (some ad2) N.length c2,vm,vo]∈jA S2 w (o1++l.flat)::L:=zO _ hb;refine ah ?_;refine RL.kh aa jC dL (hx.cons.at_ hS) hj 0 rfl rfl rfl rfl rfl rfl rfl ?_;refine ah ?_;refine RL.dh aa hS [.tmp 32] (us:=[.int .i64 i]) (jC i) rfl rfl rfl rfl rfl rfl rfl rfl rfl rfl .head JO (by intro u hu;simp only [jC,zT]at hu;subst hu;rfl) (by unfold maxLen;rw [zY];omega) (by show(_+1)*8≤_;rw [zY];omega) ?_;clear hS;rintro b3 v3 m S3 hS;rw [show(o1++l.flat).flatMap jC++jC i=(o1++l.flat++[i]).flatMap jC by simp,show(o1++l.flat).length+1=(o1++l.flat++[i]).length by simp only [zY,uW]]at hS;refine ⟨_,rfl,?_⟩;refine ah ?_;refine WP.bG L hS (an.ay fun _ h=>zO _ h) J7 ?_;have hN:=hb;refine aZ ?_;refine RH.kh aa ai.calm jC dL (Vw.js hx) hj 0 rfl rfl J7 rfl rfl rfl rfl rfl rfl rfl ?_;refine aZ ?_;refine RH.kh aa ai.calm fV bD (Vw.js hV) hq 9 rfl rfl J7 rfl rfl rfl Jm rfl rfl rfl ?_;refine aZ ?_;have oN:=hS.mf (zO _ hk) k2;rw [Yp]at oN;refine RH.cM (ih r.sz (by have:r.flat.length=r.sz:=rfl;omega) r (jR q.vm r.roots::L) S3 q.vm v3 _ rfl (zO _ hb) hV.cons (zO _ hk) (Vw.ro (zS ..)) Qs (by have:r.flat.length=r.sz:=rfl;simp only [zY,uW];omega)) ?_ (hS:=oN) (hs:=.own (.tail .head) (bk.self _));clear hS oN;rintro w m _ ⟨S4,rfl⟩ hS;rw [vI]at hS ⊢;refine ⟨an.ay fun _ h=>zO _ (zO _ h),_,rfl,?_⟩;have hS:=(hS.perm (List.Perm.swap ..)).tail;refine ah ?_;have hw:IntKind.i64.wrap ((j:Int)+1)=((j+1:Nat):Int):=by rw [ag _ J9 J9];simp
  rw [hw];refine QN.round (g,j+1,S4,w,o1++l.flat++[i]++r.flat) YC ⟨?_,?_,Zq,?_,hS⟩ J0
  ·have:=xZ List.tail h1;rw [List.tail_drop]at this;exact this
  ·rw [←h2];simp [Fo.flat]
  ·dsimp only [Fo.sz]at cz ⊢;omega
abbrev pc(s:Nat)(N:List RM)(v vm vo:Value)(R O:List Nat)(F:List az):List az:=ab s 162 [v,vm,vo]::bW 10 v (N.flatMap fV)::ey 1 (gu N)::jR vm R::jR vo O::F
theorem Ba(s:Nat)(N:List RM)(v vm vo:Value)(R O:List Nat)(F:List az):x7 (pc s N v vm vo R O F) s N O v vm vo:=⟨zS ..,.inl (zO _ (zS ..)),.inl (zO _ (zO _ (zO _ (zO _ (zS ..)))))⟩
section
variable{q:Us} {N:List RM} {x:Un}
theorem lP(h:dY q (N.map (·.d)))(id:aL):ou N id=q.idx id:=by
 unfold Us.idx ou;rw [←h.us,uM,List.findIdx?_map];rfl
theorem rP(k:q.Ok){i:Nat}(hi:i<q.us.length):oI (q.F.flat.findIdx? (·==i))=q.place i:=by
 have hp:=k.cF hi;cases hf:q.F.flat.findIdx? (·==i)with
 |none=>
  have:=uE.1 hf i (xU hp);simp at this
 |some j=>
  obtain ⟨hj,h1,_⟩:=uA.1 hf;have h2:q.F.flat[j]?=some i:=by rw [xW hj];simpa using h1
  have:j=q.place i:=(vZ hj k.nd).1 (h2.trans hp.symm);rw [this];rfl
theorem w8(h:dY q (N.map (·.d)))(k:q.Ok)(id:aL):Ot N q.F.flat id=q.find id:=by
 unfold Ot Us.find;rw [lP h];cases hi:q.idx id with
 |none=>rfl
 |some i=>exact rP k (Us.ba hi).1
theorem OD(h:dY q (N.map (·.d)))(k:q.Ok)(y:RM)(hn:q.idx y.d.u.id=none)(id:aL):Ot (N++[y]) q.F.flat id=q.find id:=by
 have h0:=lP h id
 by_cases he:y.d.u.id=id
 ·subst he;rw [hn]at h0;have hl:N.length=q.us.length:=by rw [←h.len,uF]
  have h1:ou (N++[y]) y.d.u.id=some N.length:=by
   unfold ou at h0 ⊢;rw [List.findIdx?_append,h0,List.findIdx?_singleton];simp
  unfold Ot Us.find;rw [h1,hn];simp only;have:q.F.flat.findIdx? (·==N.length)=none:=uE.2 fun j hj=>by
   have:=(k.mem j).1 hj;simp;omega
  rw [this];rfl
 ·have h1:ou (N++[y]) id=ou N id:=by
   unfold ou;rw [List.findIdx?_append,List.findIdx?_singleton];simp [he]
  have:=w8 h k id;unfold Ot at this ⊢;rw [h1];exact this
theorem Eh(h:dY q (N.map (·.d)))(k:q.Ok)(y:RM)(hn:q.idx y.d.u.id=none)(a b:Un):kD (N++[y]) q.F.flat a b=q.ahead a b:=by
 have hf:∀u,jm (N++[y]) q.F.flat u=Br q u:=fun u=>by
  unfold jm Br;rw [OD h k y hn,k.fe]
 unfold kD;rw [hf,hf,k.En]
theorem HU(h:dY q (N.map (·.d)))(k:q.Ok)(y:RM)(hn:q.idx y.d.u.id=none){B:List Nat}(hB:∀i∈B,i<q.us.length):kG (N++[y]) q.F.flat B y.d.u=q.kR B y.d.u:=by
 unfold kG Us.kR;refine xZ List.length (Us.takeWhile_congr fun i hi=>?_);have hl:N.length=q.us.length:=by rw [←h.len,uF]
 have iA:=hB i hi;obtain ⟨d,hd,Xp⟩:=h.get iA;rw [xM]at hd;obtain ⟨r,hr,rfl⟩:=xN.1 hd;rw [vJ J9,hr];simp only;rw [Eh h k y hn,Xp]
end
theorem kK(x:aL):ee Tryz.prog 22 [iV x] [] (.bool x.right):=by
 intro m X hS;refine (zv m x).mono ?_;rintro r m' ⟨h1,h2⟩;exact ⟨[],⟨h1,rfl⟩,hS.calm h2⟩
def lZ(q:Us):Option Nat→List Nat
 |none=>[]
 |some j=>Fo.path [] q.F j
def Aa(il:Option Nat)(l:List Nat):Bool:=match il with
 |none=>false
 |some i=>decide (i∈l)
abbrev yz(x:Un)(p:Int)(sd:Bool):List Value:=[.int .u64 x.id.c,.int .u64 x.id.k,.int .u64 x.l.c,.int .u64 x.l.k,.int .u64 x.r.c,.int .u64 x.r.k,.int .i64 p,.bool sd,.slice none 0 0,.slice none 0 0]
theorem nodeAt{q:Us}{N:List RM}(h:dY q (N.map (·.d)))(k:q.Ok){i:Nat}(hi:i<q.us.length):∃r,N[i]?=some r∧r.d.u=q.u i∧r.d.A=(db q.F i).1.roots∧r.d.B=(db q.F i).2.roots∧((r.d.p=none∧(Fo.path [] q.F i).tail=lZ q none)∨∃j,r.d.p=some j∧j<q.us.length∧(Fo.path [] q.F i).tail=lZ q (some j))∧∃t,Fo.path [] q.F i=i::t:=by
 obtain ⟨d,p,s,a,b,h1,hA,hs,hu,hp,_,Yt,Zh⟩:=h.node k hi;rw [xM]at h1;obtain ⟨r,hr,rfl⟩:=xN.1 h1;rw [hs];obtain ⟨t,e1,e2,e3⟩:=hA.path (up:=[]) k.nd YA;refine ⟨r,hr,hu,Yt,Zh,?_,t,e1⟩;rw [e1];cases p with
 |none=>
  left;refine ⟨hp,?_⟩;cases t with
  |nil=>rfl
  |cons y t=>cases e2
 |some j=>
  right;rcases e3 with rfl|⟨t',h0,h3,h4⟩
  ·cases e2
  ·cases h0;exact ⟨j,hp,(k.mem j).1 h4,h3.symm⟩
theorem IG{q:Us}{x:Un}(k:q.Ok)(P7:q.there x.l=true){r:Nat}(hr:q.idx x.r=some r):q.bA x=if(decide (x.l=⟨0,0⟩)||Aa (q.idx x.l) (Fo.path [] q.F r).tail)=true then some r else none:=by
 unfold Us.bA;rw [hr];simp only;cases hl:q.idx x.l with
 |none=>
  have h0:x.l=⟨0,0⟩:=by simpa [Us.there,hl]using P7
  simp [h0]
 |some l=>
  have h0:¬x.l=⟨0,0⟩:=fun h=>by rw [h,k.nb]at hl;cases hl
  simp [h0,Aa]
theorem Rq(S:List Nat)(s:Nat)(q:Sq)(x:Un):bu Tryz.prog 227 [pA s,uV x] [a7 S s q] (fun v H=>v=.bool (q.may x)∧∃S',H=[a7 S' s q]):=by
 intro m0 X hS;refine aP.zA Tryz.func227 ?_;refine aa5 ?_;intro b1 m hS;refine ac8 ?_;(try clear hS);intro b2 m hS;refine aa1 ?_;have hT:=hS;clear hS;refine go ?_;refine WP.nM [ab b2 101 (uC x),ab b1 105 [pA s]] hT JD rfl J7 ?_;have hS:=hT;clear hT;refine go ?_;cases hA:x.id.right with
 |false=>
  have hp:=ja x.id;rw [hA]at hp;refine zK hp (fun m hS=>?_);refine go ?_;exact QN.aj rfl rfl ⟨_,rfl,_,⟨by simp [Us.may,hA],S,rfl⟩,hS.tail.tail⟩
 |true=>
  have hp:=ja x.id;rw [hA]at hp;refine zK hp (fun m hS=>?_);refine go ?_;obtain ⟨ra,rt,fr,at_,ord,ro,N,k,hU⟩:=bl (hS.perm (xI (l₁:=[_,_]) (l₂:=[_])));refine RH.ry aa ai.calm 10 rfl J7 rfl rfl rfl JQ rfl rfl rfl ?_;refine RH.one rfl J7 rfl ?_;refine RL.iU aa hU rfl rfl rfl JQ rfl rfl ?_;refine RL.N1 (RH.aD hS JD ?_);refine go ?_;have hg:=k.get x.id;cases hi:q.idx x.id with
  |some i=>
   rw [hi]at hg;refine ab2 ?_;refine RL.lookup aa hU ko rfl rfl rfl rfl rfl rfl JQ hg rfl ?_;refine ae8 ?_;refine go ?_;exact QN.aj rfl rfl ⟨_,rfl,_,⟨by simp [Us.may,hi],S,rfl⟩,hS.tail.tail⟩
  |none=>
   rw [hi]at hg;refine ab2 ?_;refine RL.lookup aa hU ko rfl rfl rfl rfl rfl rfl JQ hg rfl ?_;refine ae8 ?_;refine go ?_;clear hU hg;refine RH.iN (fi:=[]) (ca:=[pA b1]) hS (Gq S s b1 q x.l) rfl J7 rfl rfl rfl rfl rfl JB ?_;clear hS;rintro _ m _ ⟨rfl,S1,rfl⟩ hS;simp only [zC,zN]at hS;refine af2 ?_;cases hC:q.there x.l with
   |false=>
    refine go ?_;exact QN.aj rfl rfl ⟨_,rfl,_,⟨by simp [Us.may,hC],S1,rfl⟩,(hS.perm (.swap ..)).drop (H:=[_])⟩
   |true=>
    refine go ?_;refine RH.iN (fi:=[]) (ca:=[pA b1]) hS (Gq S1 s b1 q x.r) rfl J7 rfl rfl rfl rfl rfl JB ?_;clear hS;rintro _ m _ ⟨rfl,S2,rfl⟩ hS;simp only [zC,zN]at hS;refine af2 ?_;cases hD:q.there x.r with
    |false=>
     refine go ?_;exact QN.aj rfl rfl ⟨_,rfl,_,⟨by simp [Us.may,hD],S2,rfl⟩,(hS.perm (.swap ..)).drop (H:=[_])⟩
    |true=>
     have hT:=hS;clear hS;refine go ?_;refine WP.nM [ab b2 101 (uC x),ab b1 105 [pA s]] hT JD rfl J7 ?_;have hS:=hT;clear hT;refine go ?_;have P2:=se x.l;have Pu:=se x.r
     by_cases h1:x.l=⟨0,0⟩
     ·rw [zW h1]at P2;refine zK P2 (fun m hS=>?_);refine go ?_;exact QN.aj rfl rfl ⟨_,rfl,_,⟨by rw [Us.may,hA,hi,hC,hD];simp [h1],S2,rfl⟩,(hS.perm (.swap ..)).drop (H:=[_])⟩
     ·rw [zV h1]at P2;refine zK P2 (fun m hS=>?_);refine go ?_
      by_cases h2:x.r=⟨0,0⟩
      ·rw [zW h2]at Pu;refine zK Pu (fun m hS=>?_);refine go ?_;exact QN.aj rfl rfl ⟨_,rfl,_,⟨by rw [Us.may,hA,hi,hC,hD];simp [h2],S2,rfl⟩,(hS.perm (.swap ..)).drop (H:=[_])⟩
      ·rw [zV h2]at Pu;refine zK Pu (fun m hS=>?_);refine go ?_;refine zL (ml S2 s q x.l) ?_;clear hS;rintro _ m _ ⟨rfl,S3,rfl⟩ hS;simp only [zC,zN]at hS;refine af2 ?_;refine go ?_;refine zL (ml S3 s q x.r) ?_;clear hS;rintro _ m _ ⟨rfl,S4,rfl⟩ hS;simp only [zC,zN]at hS;refine af2 ?_;refine go ?_;exact QN.aj rfl rfl ⟨_,rfl,_,⟨by rw [Us.may,hA,hi,hC,hD];simp [h1,h2],S4,rfl⟩,hS.drop (H:=[_])⟩
theorem pJ.node{q:Sq}{fr:Bool}{at_:List (aL×Value)}{ord ro:Rw}{N:List Nd}(k:pJ q fr at_ ord ro N)(ht:q.tr=true){i:Nat}(hi:i<q.us.length){p:Option Nat}{s:Bool}{a b:Fo}(hA:Fo.At q.F none false i p s a b):
  ∃d,N[i]?=some d∧d∈N∧d.a=q.a i∧d.u=q.u i∧d.p=p.map q.a∧d.sz=a.sz+b.sz+1∧d.rl.xs=a.roots.map q.a∧d.rr.xs=b.roots.map q.a:=by
 obtain ⟨d,h1,h2,h3,h4⟩:=k.l.get hi;obtain ⟨d',h5,h6⟩:=k.l.at_ ht _ _ _ _ _ hA;rw [h1]at h5;cases h5;exact ⟨d,h1,h2,h3,h4,h6⟩
section
variable{q:Sq} {s ra rt:Nat} {fr:Bool} {at_:List (aL×Value)} {ord ro:Rw} {N:List Nd} {F:List az}
theorem oe{i:Nat}{d:Nd}(h:N[i]?=some d):(fU q s ra rt fr at_ ord ro N F).Perm (d.A::d.rl.A::d.rr.A::fU q s ra rt fr at_ ord ro (N.eraseIdx i) F):=
 (((tv h).append_right F).append_left [_,_,_,_,_]).trans (tM [_,_,_,_,_] [d.A,d.rl.A,d.rr.A] _)
theorem xq{i:Nat}{d:Nd}(d':Nd)(h:N[i]?=some d):(d'.A::d'.rl.A::d'.rr.A::fU q s ra rt fr at_ ord ro (N.eraseIdx i) F).Perm (fU q s ra rt fr at_ ord ro (N.set i d') F):=
 (tM [d'.A,d'.rl.A,d'.rr.A] [_,_,_,_,_] _).trans (((Lp d' h).append_right F).append_left [_,_,_,_,_])
end
theorem Fu{q:Us}{id:aL}:∀{l:List Nat} {j:Nat},(l.map fun k=>(q.u k).id).Pairwise (fun x y=>x.lt y=true)→j≤l.length→(∀n y,j≤n→l[n]?=some y→id.lt (q.u y).id=true)→(∀y,0<j→l[j-1]?=some y→(q.u y).id.lt id=true)→q.kL l id=j
 |[],j,_,hj,_,_=>by simp at hj;subst hj;rfl
 |a::l,0,hs,_,h1,_=>by
  have h2:=h1 0 a (yP _) rfl;have h3:(q.u a).id.lt id=false:=by
   cases h:(q.u a).id.lt id
   ·rfl
   ·have:=aL.lt_trans h2 h;rw [aL.lt_irrefl]at this;cases this
  simp [Us.kL,h3]
 |a::l,j+1,hs,hj,h1,h2=>by
  obtain ⟨s1,s2⟩:=yZ.1 hs;have ih:=Fu (q:=q) (id:=id) (l:=l) (j:=j) s2 (by simpa using hj) (fun n y hn hy=>h1 (n+1) y J9 (by simpa using hy)) (fun y hj hy=>h2 y J9 (by
   obtain ⟨i,rfl⟩:∃i,j=i+1:=⟨j-1,J9⟩
   simpa using hy))
  have h3:(q.u a).id.lt id=true:=by
   rcases xR j with rfl|hp
   ·exact h2 a J9 rfl
   ·have aM:j-1<l.length:=by simp at hj;omega
    have h4:=h2 l[j-1] J9 (by
     obtain ⟨i,rfl⟩:∃i,j=i+1:=⟨j-1,J9⟩;simp)
    exact aL.lt_trans (s1 _ (vE.2 ⟨_,vF aM,rfl⟩)) h4
  unfold Us.kL at ih ⊢;simp only [uG,h3,yT,yF,ih]
theorem zd(S:List Nat)(s b:Nat)(q:Sq)(x:Un)(r:Nat)(hr:r<q.us.length)(ht:q.tr=true)(hx:q.idx x.id=none){p:Option Nat}{sd:Bool}{fa fb:Fo}(hA:Fo.At q.F none false r p sd fa fb):bu Tryz.prog 261 [pA s,pA b,pA (q.a r)] [a7 S s q,ab b 178 (nC x none (.slice none 0 0) (.slice none 0 0) 1)]
  (fun v H=>v=.int .i64 (q.place r-(fa.sz-Fo.pre (q.kL fa.roots x.id) fa):Nat)∧∃ra rt fr at_ ord ro N d R,pJ q fr at_ ord ro N∧N[r]?=some d∧R.xs=aB (q.kL fa.roots x.id) b d.rl.xs∧H=fU q s ra rt fr at_ ord ro (N.set r {d with rl:=R}) [ab b 178 (nC x (some (q.a r)) (.slice none 0 0) (.slice none 0 0) 1)]):=by
 intro m0 X hS;refine aP.zA Tryz.func261 ?_;refine aj0 ?_;intro m hS;have hS:Tr m0 _ X m [a7 S s q,ab b 178 (nC x (some (q.a r)) (.slice none 0 0) (.slice none 0 0) 1)]:=hS;obtain ⟨ra,rt,fr,at_,ord,ro,N,k,hS⟩:=bl hS;obtain ⟨d,d1,d2,d3,d4,d5,d6,d7,d8⟩:=k.node ht hr hA;have hN:ab (q.a r) 178 (nC (q.u r) d.p d.rl.v d.rr.v d.sz)∈eZ N++[ab b 178 (nC x (some (q.a r)) (.slice none 0 0) (.slice none 0 0) 1)]:=by rw [←d3,←d4];exact yW _ (bc d2).1
 refine go ?_;obtain ⟨S1,hS⟩:=a8 k hS;refine zD (ml S1 s q (q.u r).id) ?_;clear hS hN;rintro _ m _ ⟨rfl,S2,rfl⟩ hS;simp only [zC,zN]at hS;refine aa1 ?_;have hf:q.find (q.u r).id=q.place r:=by simp [Us.find,k.ok.kB hr]
 rw [hf];obtain ⟨ra,rt,fr,at_,ord,ro,N,k,hS⟩:=bl hS;obtain ⟨d,d1,d2,d3,d4,d5,d6,d7,d8⟩:=k.node ht hr hA;have hN:ab (q.a r) 178 (nC (q.u r) d.p d.rl.v d.rr.v d.sz)∈eZ N++[ab b 178 (nC x (some (q.a r)) (.slice none 0 0) (.slice none 0 0) 1)]:=by rw [←d3,←d4];exact yW _ (bc d2).1
 have s3:ab b 178 (nC x (some (q.a r)) (.slice none 0 0) (.slice none 0 0) 1)∈eZ N++[ab b 178 (nC x (some (q.a r)) (.slice none 0 0) (.slice none 0 0) 1)]:=by simp
 obtain ⟨A,c,hv,hc⟩:=Rw.shape hS (r:=d.rl) (by simp [(bc d2).2.1]);refine go ?_;rw [hv];refine go ?_;have hl:d.rl.xs.length=fa.roots.length:=by rw [d7,uF]
 obtain ⟨OR,TB⟩:=k.ok.nR hA;have ep:=k.ep;refine (WP.eo (X:=Nat) (fun j=>[(0,pA s),(1,pA b),(2,pA (q.a r)),(7,.int .i64 (q.place r-(fa.sz-Fo.pre j fa):Nat)),(8,.int .i64 j)])
  (fun j m'=>j≤fa.roots.length∧(∀n y,j≤n→fa.roots[n]?=some y→x.id.lt (q.u y).id=true)∧Tr m0 (au [a7 S s q,ab b 178 (nC x none (.slice none 0 0) (.slice none 0 0) 1)]) X m' (fU q s ra rt fr at_ ord ro N [ab b 178 (nC x (some (q.a r)) (.slice none 0 0) (.slice none 0 0) 1)]))
  (fun j m'=>j=q.kL fa.roots x.id∧Tr m0 (au [a7 S s q,ab b 178 (nC x none (.slice none 0 0) (.slice none 0 0) 1)]) X m' (fU q s ra rt fr at_ ord ro N [ab b 178 (nC x (some (q.a r)) (.slice none 0 0) (.slice none 0 0) 1)])) (fun j=>j) fa.roots.length 0
  (Sub.C1 rfl (Sub.C1 rfl (Sub.C1 rfl (Sub.C1 ?_ (Sub.C1 ?_ Sub.nil))))) ⟨yP _,fun n y hn hy=>?_,hS⟩ ?_ ?_)
 ·rw [Fo.As,tG,Nat.sub_zero];rfl
 ·rw [←hl];rfl
 ·have:=(yV.1 hy).1;omega
 ·clear hS;rintro j m ⟨hj,IL,hS⟩;dsimp only at hj IL hS ⊢;refine go ?_;rcases xR j with rfl|fh
  ·refine go ?_;refine WP.exit (QN.tx (QN.tx (QN.du 0 YC ⟨?_,hS⟩)));exact (Fu (k.ok.Qo _ _ _ _ _ hA) (yI _) (fun n y _ hy=>IL n y (yI _) hy) (fun y h=>absurd h J9)).symm
  ·obtain ⟨y,hy⟩:∃y,fa.roots[j-1]?=some y:=⟨_,xW J9⟩;obtain ⟨fl,fr',hn⟩:=Fo.nS _ _ _ hy;have MC:=At.below hA (.inl (At.Du (some r) true hn));have Be:=(k.ok.mem y).1 MC.mem.1;obtain ⟨dy,y1,y2,y3,y4,y5,y6,y7,y8⟩:=k.node ht Be MC;have jr:ab (q.a y) 178 (nC (q.u y) dy.p dy.rl.v dy.rr.v dy.sz)∈eZ N++[ab b 178 (nC x (some (q.a r)) (.slice none 0 0) (.slice none 0 0) 1)]:=by rw [←y3,←y4];exact yW _ (bc y2).1
   have sU:=Fo.nV _ _ _ _ _ hn;rw [Nat.sub_add_cancel fh]at sU;have A0:=Fo.kY j fa;have iD:=kW fa;have hw:IntKind.i64.wrap ((j:Int)-1)=((j-1:Nat):Int):=by rw [ag _ J9 J9];omega
   have so:decide ((j:Int)>0)=true:=zW J9;obtain ⟨g,c',iI,_,_,_⟩:=hS.dG (show aF d.rl.S 176 1 d.rl.v d.rl.xs.length (d.rl.xs.map pA)∈_ from by simp only [yH,yL];exact .inr (.inr (.inr (.inr (.inr (.inl (bc d2).2.1)))))) J9;have fQ:=JS.aW (m0:=m0) (M0:=au [a7 S s q,ab b 178 (nC x none (.slice none 0 0) (.slice none 0 0) 1)]) (X:=X) (L:=fU q s ra rt fr at_ ord ro N [ab b 178 (nC x (some (q.a r)) (.slice none 0 0) (.slice none 0 0) 1)]) (show aF d.rl.S 176 1 d.rl.v d.rl.xs.length (d.rl.xs.map pA)∈_ from by simp only [yH,yL];exact .inr (.inr (.inr (.inr (.inr (.inl (bc d2).2.1))))));rw [iI]at fQ;have gi:(d.rl.xs.map pA)[(j-1)*1]?=some (pA (q.a y)):=by rw [uO,d7,uM,xM,hy];rfl
   refine go ?_;rw [so];refine go ?_;rw [hw];rw [iI];refine go ?_;refine RH.GX aa ai.calm fQ gi rfl rfl rfl J7 rfl rfl rfl rfl rfl ?_;refine go ?_;cases aM:x.id.lt (q.u y).id with
   |false=>
    have hp:=xf x.id (q.u y).id;rw [aM]at hp;refine RH.bU (fi:=[]) (ca:=[]) hS hp rfl J7 rfl rfl rfl rfl rfl JB (an.self _) rfl (fun m hS=>?_);refine go ?_;refine WP.exit (QN.tx (QN.tx (QN.du j YC ⟨?_,hS⟩)));refine (Fu (k.ok.Qo _ _ _ _ _ hA) hj IL (fun y' _ s9=>?_)).symm;rw [hy]at s9;cases s9;refine (aL.Hc (fun hh=>?_)).resolve_left (by rw [aM];simp);exact Us.eP.1 hx (vE.2 ⟨_,Us.DO Be,hh.symm⟩)
   |true=>
    have hp:=xf x.id (q.u y).id;rw [aM]at hp;refine RH.bU (fi:=[]) (ca:=[]) hS hp rfl J7 rfl rfl rfl rfl rfl JB (an.self _) rfl (fun m hS=>?_);refine go ?_;rw [hw,iI];refine go ?_;have jg:=Rw.sl hS (r:=d.rl) (by simp only [yH,yL];exact .inr (.inr (.inr (.inr (.inr (.inl (bc d2).2.1))))));rw [iI]at jg;refine RL.GX aa jg gi rfl rfl rfl rfl rfl rfl ?_;refine go ?_;have jb:IntKind.i64.wrap (((q.place r-(fa.sz-Fo.pre j fa):Nat):Int)-(dy.sz:Int))=((q.place r-(fa.sz-Fo.pre (j-1) fa):Nat):Int):=by
     rw [ag _ J9 J9];omega
    rw [hw,jb];refine QN.round (j-1) YC ⟨J9,fun n y' xw s9=>?_,hS⟩ J9;rcases tL xw with rfl|xw
    ·rw [hy]at s9;cases s9;exact aM
    ·exact IL n y' J9 s9
 ·clear hS hN s3 hv hc;rintro _ m ⟨rfl,hS⟩;refine QN.bx ?_;have hS:=hS.perm (oe d1);have eA:d.A=ab (q.a r) 178 (nC (q.u r) d.p d.rl.v d.rr.v d.sz):=by rw [Nd.A,d3,d4]
  have hS:Tr m0 (au [a7 S s q,ab b 178 (nC x none (.slice none 0 0) (.slice none 0 0) 1)]) X m (ab (q.a r) 178 (nC (q.u r) d.p d.rl.v d.rr.v d.sz)::aF d.rl.S 176 1 d.rl.v d.rl.xs.length (d.rl.xs.map pA)::d.rr.A::fU q s ra rt fr at_ ord ro (N.eraseIdx r) [ab b 178 (nC x (some (q.a r)) (.slice none 0 0) (.slice none 0 0) 1)]):=by rw [←eA];exact hS
  have NT:q.kL fa.roots x.id≤d.rl.xs.length:=by rw [hl];simpa [Us.kL]using Us.cW _ fa.roots
  have iD:=kW fa;refine go ?_;refine RL.aA aa hS [.tmp 68] [pA b] rfl rfl rfl rfl rfl rfl JO rfl rfl rfl ?_;clear hS;intro b' m hS;refine ⟨_,rfl,?_⟩;refine zD (qq d.rl.v (.slice (some ⟨b',0,none⟩) 1 1) d.rl.S [b'] d.rl.xs.length (q.kL fa.roots x.id) 1 (d.rl.xs.map pA) [pA b] NT J9 J9 (fun z hz=>by obtain ⟨_,_,rfl⟩:=vE.1 hz;rfl) (fun z hz=>by simp only [zT]at hz;subst hz;rfl)) ?_;clear hS;rintro v' m _ ⟨S',rfl⟩ hS;simp only [zC,zN]at hS;obtain ⟨A2,c2,rfl,_⟩:=hS.shape;refine ⟨_,rfl,?_⟩;refine go ?_;refine RL.aO aa hS rfl rfl rfl rfl YB YB JN YB ?_;(try clear hS);intro m hS;refine go ?_;have eR:(Rw.mk S' (.slice A2 (d.rl.xs.length+1) c2) (aB (q.kL fa.roots x.id) b d.rl.xs)).A=aF S' 176 1 (.slice A2 (d.rl.xs.length+1) c2) (d.rl.xs.length+1) ((d.rl.xs.map pA).take (q.kL fa.roots x.id*1)++[pA b]++(d.rl.xs.map pA).drop (q.kL fa.roots x.id*1)):=by simp only [Rw.A,bO,iO];simp [aB]
  have eB:Nd.A {d with rl:=(Rw.mk S' (.slice A2 (d.rl.xs.length+1) c2) (aB (q.kL fa.roots x.id) b d.rl.xs))}=ab (q.a r) 178 (nC (q.u r) d.p (.slice A2 (d.rl.xs.length+1) c2) d.rr.v d.sz):=by simp only [Nd.A,d3,d4]
  have hS:Tr m0 (au [a7 S s q,ab b 178 (nC x none (.slice none 0 0) (.slice none 0 0) 1)]) X m (ab (q.a r) 178 (nC (q.u r) d.p (.slice A2 (d.rl.xs.length+1) c2) d.rr.v d.sz)::(Rw.mk S' (.slice A2 (d.rl.xs.length+1) c2) (aB (q.kL fa.roots x.id) b d.rl.xs)).A::d.rr.A::fU q s ra rt fr at_ ord ro (N.eraseIdx r) [ab b 178 (nC x (some (q.a r)) (.slice none 0 0) (.slice none 0 0) 1)]):=by rw [eR];exact hS.perm (.swap ..)
  rw [←eB]at hS;exact QN.aj rfl rfl ⟨_,rfl,_,⟨rfl,ra,rt,fr,at_,ord,ro,N,d,(Rw.mk S' (.slice A2 (d.rl.xs.length+1) c2) (aB (q.kL fa.roots x.id) b d.rl.xs)),k,d1,rfl,rfl⟩,hS.perm (xq _ d1)⟩
end Go.Proofs.YtgpgladbdoimdaaGreatDoor
