/- Texts that belong together. -/
import Derived.Test.YtgpgladbdoimdaaGreatDoorMLawMV12
namespace Go.Proofs.YtgpgladbdoimdaaGreatDoor
open Go.ChangeShapes Go.WideShapes Go.ChangeAt Go.RowKit Go.Ev Go.Ids Go.SeqP
set_option maxRecDepth 20000
set_option maxHeartbeats 1000000
theorem Ur(x y:aL)(w:World):(Op.equal 30 (iV x) (iV y)).run Tryz.prog w=.ok (decide (x=y)) w:=by
 have hS:Tryz.prog.underlying 30=some (.struct (Tryz.prog.fieldsOf 30)):=by kernel_rfl
 have hp:Tryz.prog.stoodInHeld 30=false:=by kernel_rfl
 have u37:=Tryz.underlying28;have a37:=Tryz.isAgg28;have z37:=Tryz.sizeOf28;simp only [iV,iC,Op.equal,Op.maxDepth];rw [show(10000:Nat)=9999+1 from rfl,run_equalIn_agg w 9999 30 _ _ hS hp];simp only [Program.fieldsOf,Tryz.underlying30]
 go_simp
 obtain ⟨a,b⟩:=x;obtain ⟨a',b'⟩:=y
 by_cases h1:a=a'<;>by_cases h2:b=b'<;>simp [h1,h2,Int.natCast_inj]
theorem cX(x y:aL)(w:World):(binOp .eql 30 (iV x) (iV y)).run Tryz.prog w=.ok (.bool (decide (x=y))) w:=by
 have h:=Ur x y w;simp only [iV]at h ⊢;rw [run_eql_struct];simp only [Op.equal,Op.maxDepth]at h;rw [h];rfl
theorem ni(x y:aL)(w:World):(binOp .neq 30 (iV x) (iV y)).run Tryz.prog w=.ok (.bool !(decide (x=y))) w:=by
 have h:=Ur x y w;simp only [iV]at h ⊢;rw [run_neq_struct];simp only [Op.equal,Op.maxDepth]at h;rw [h];rfl
theorem aY(op:BinOp)(x y:aL)(ox oy:Operand)(w:World):(eqGuard op 30 ox oy (iV x) (iV y)).run Tryz.prog w=.ok () w:=run_eqGuard_agg w op 30 ox oy _ _ J7
theorem ko:zq Tryz.prog 30 iV where
 desc:=⟨_,Tryz.underlying30,.inr fun _ _=>rfl⟩
 eq:=fun a b w _ _=>Ur a b w
 Lw:=fun z a w=>by
  have u37:=Tryz.underlying28;have uI:=Tryz.underlying30;have a37:=Tryz.isAgg28;have z37:=Tryz.sizeOf28;rw [show(10000:Nat)=9998+1+1 from rfl];unfold Instr.checkKey;simp only [Sem.run_bind,run_underlying uI,Result.andThen_ok,iV,iC];have hc:∀v:Nat,(Instr.checkKey z 9999 28 (.int .u64 v)).run Tryz.prog w=.ok () w:=fun v=>by
   rw [show(9999:Nat)=9998+1 from rfl];unfold Instr.checkKey;simp only [Sem.run_bind,run_underlying u37,Result.andThen_ok,Sem.run_pure]
  rw [←Array.forIn_toList];simp [part,a37,z37,hc]
 bits:=fun a=>by simp [Instr.sameBits,iV,iC]
theorem se(x:aL):ee Tryz.prog 259 [iV x] [] (.bool (decide (x=⟨0,0⟩))):=by
 intro m0 X hS;refine aP.zA Tryz.func259 ?_;refine aa5 ?_;intro b1 m hS;refine RL.binOp (cX x ⟨0,0⟩) (aY _ _ _ _ _) rfl rfl rfl rfl ?_;refine go ?_;exact QN.aj rfl rfl ⟨_,rfl,[],⟨rfl,rfl⟩,hS.drop⟩
def uC(u:Un):List Value:=[.int .u64 u.id.c,.int .u64 u.id.k,.int .u64 u.l.c,.int .u64 u.l.k,.int .u64 u.r.c,.int .u64 u.r.k]
def uV(u:Un):Value:=.agg (uC u).toArray
def pA(b:Nat):Value:=.pointer (some ⟨b,0,none⟩)
def pO(o:Option Nat):Value:=.pointer (o.map fun b=>⟨b,0,none⟩)
def nC(u:Un)(p:Option Nat)(lv rv:Value)(sz:Nat):List Value:=[.int .u64 u.id.c,.int .u64 u.id.k,.int .u64 u.l.c,.int .u64 u.l.k,.int .u64 u.r.c,.int .u64 u.r.k,pO p,lv,rv,.int .i64 sz]
structure Rw where
 S:List Nat
 v:Value
 xs:List Nat
def Rw.A(r:Rw):az:=aF r.S 176 1 r.v r.xs.length (r.xs.map pA)
structure Nd where
 a:Nat
 u:Un
 p:Option Nat
 sz:Nat
 rl:Rw
 rr:Rw
def Nd.A(d:Nd):az:=ab d.a 178 (nC d.u d.p d.rl.v d.rr.v d.sz)
def eZ(N:List Nd):List az:=N.flatMap fun d=>[d.A,d.rl.A,d.rr.A]
structure Sq extends Us where
 ad:List Nat
 tr:Bool
end Go.Proofs.YtgpgladbdoimdaaGreatDoor
namespace Go.Proofs.YtgpgladbdoimdaaGreatDoor.Sq
open Go.ChangeShapes Go.WideShapes Go.ChangeAt Go.RowKit Go.Ev Go.Ids Go.SeqP
set_option maxRecDepth 20000
set_option maxHeartbeats 1000000
def a(q:Sq)(i:Nat):Nat:=q.ad.getD i 0
def fq(q:Sq):List (aL×Value):=(q.us.zip q.ad).map fun p=>(p.1.id,pA p.2)
end Go.Proofs.YtgpgladbdoimdaaGreatDoor.Sq
namespace Go.Proofs.YtgpgladbdoimdaaGreatDoor
open Go.ChangeShapes Go.WideShapes Go.ChangeAt Go.RowKit Go.Ev Go.Ids Go.SeqP
set_option maxRecDepth 20000
set_option maxHeartbeats 1000000
structure Lay(q:Sq)(N:List Nd):Prop where
 ad:N.map (·.a)=q.ad
 us:N.map (·.u)=q.us
 at_:q.tr=true→∀i p s a b,Fo.At q.F none false i p s a b→∃d,N[i]?=some d∧d.p=p.map q.a∧d.sz=a.sz+b.sz+1∧d.rl.xs=a.roots.map q.a∧d.rr.xs=b.roots.map q.a
def Qx(q:Sq)(at_:List (aL×Value)):Prop:=∀k i:Nat,q.F.flat[k]?=some i→bj at_ (q.u i).id=some (.int .i64 k)
def I8(s ra rt:Nat)(fr:Bool)(al at_:List (aL×Value))(ord ro:Rw)(N:List Nd):List az:=
 ab s 175 [.map (some ra),ord.v,ro.v,.map (some rt),.bool fr]::mapA ra iV al::mapA rt iV at_::ord.A::ro.A::eZ N
structure pJ(q:Sq)(fr:Bool)(at_:List (aL×Value))(ord ro:Rw)(N:List Nd):Prop where
 o:ord.xs=q.F.flat.map q.a
 r:q.tr=true→ro.xs=q.F.roots.map q.a
 l:Lay q N
 ok:q.Ok
 ep:q.us.length≤1000000
 f:fr=true→Qx q at_
def Q8(s:Nat)(q:Sq)(L:List az):Prop:=∃ra rt fr at_ ord ro N,L=I8 s ra rt fr q.fq at_ ord ro N∧pJ q fr at_ ord ro N
abbrev a7(S:List Nat)(s:Nat)(q:Sq):az:=vz S (Q8 s q)
abbrev fU(q:Sq)(s ra rt:Nat)(fr:Bool)(at_:List (aL×Value))(ord ro:Rw)(N:List Nd)(F:List az):List az:=ab s 175 [.map (some ra),ord.v,ro.v,.map (some rt),.bool fr]::mapA ra iV q.fq::mapA rt iV at_::ord.A::ro.A::(eZ N++F)
theorem bl{m0 m:World}{M0 X:List Nat}{F:List az}{S:List Nat}{s:Nat}{q:Sq}(h:Tr m0 M0 X m (a7 S s q::F)):∃ra rt fr at_ ord ro N,pJ q fr at_ ord ro N∧
  Tr m0 M0 X m (fU q s ra rt fr at_ ord ro N F):=by
 obtain ⟨L,⟨ra,rt,fr,at_,ord,ro,N,rfl,k⟩,hS⟩:=h.open;simp only [I8,yB]at hS;exact ⟨ra,rt,fr,at_,ord,ro,N,k,hS⟩
theorem a8{m0 m:World}{M0 X:List Nat}{F:List az}{s ra rt:Nat}{q:Sq}{fr:Bool}{at_:List (aL×Value)}{ord ro:Rw}{N:List Nd}(k:pJ q fr at_ ord ro N)
  (h:Tr m0 M0 X m (fU q s ra rt fr at_ ord ro N F)):∃S,Tr m0 M0 X m (a7 S s q::F):=
 ⟨_,Tr.close (L:=I8 s ra rt fr q.fq at_ ord ro N) (by simpa only [I8,yB]using h) ⟨ra,rt,fr,at_,ord,ro,N,rfl,k⟩⟩
section
variable{q:Sq} {N:List Nd}
theorem bc{d:Nd}(h:d∈N):d.A∈eZ N∧d.rl.A∈eZ N∧d.rr.A∈eZ N:=
 ⟨vS.2 ⟨d,h,YA⟩,vS.2 ⟨d,h,YA⟩,vS.2 ⟨d,h,YA⟩⟩
theorem jE(id:aL):∀(us:List Un) (ad:List Nat),us.length=ad.length→(bj ((us.zip ad).map fun p=>(p.1.id,pA p.2)) id).getD (.pointer none)=pO ((us.findIdx? fun u=>decide (u.id=id)).map fun i=>ad.getD i 0)
 |[],[],_=>rfl
 |u::us,a::ad,h=>by
  have ih:=jE id us ad J5;simp only [List.zip_cons_cons,xK,bj,List.findIdx?_cons]
  by_cases hu:u.id=id
  ·simp [hu,pO,pA]
  ·simp [hu,ih,Option.map_map,Function.comp_def]
theorem pJ.K7{fr:Bool}{at_:List (aL×Value)}{ord ro:Rw}(h:pJ q fr at_ ord ro N):q.ad.length=q.us.length:=by rw [←h.l.ad,←h.l.us,uF,uF]
theorem pJ.get{fr:Bool}{at_:List (aL×Value)}{ord ro:Rw}(h:pJ q fr at_ ord ro N)(id:aL):(bj q.fq id).getD (.pointer none)=pO ((q.idx id).map q.a):=jE id q.us q.ad h.K7.symm
theorem Kv{i:Nat}{d:Nd}(h:N[i]?=some d):N.Perm (d::N.eraseIdx i):=by
 obtain ⟨aM,hg⟩:=yV.1 h;have h1:N=N.take i++d::N.drop (i+1):=by
  conv=>lhs;rw [←yG i N,tI aM,hg]
 rw [List.eraseIdx_eq_take_drop_succ]
 conv=>lhs;rw [h1]
 exact vU
theorem tv{i:Nat}{d:Nd}(h:N[i]?=some d):(eZ N).Perm (d.A::d.rl.A::d.rr.A::eZ (N.eraseIdx i)):=
 (Kv h).flatMap_right (f:=fun d:Nd=>[d.A,d.rl.A,d.rr.A])
theorem Lp{i:Nat}{d:Nd}(d':Nd)(h:N[i]?=some d):(d'.A::d'.rl.A::d'.rr.A::eZ (N.eraseIdx i)).Perm (eZ (N.set i d')):=by
 have h1:(N.set i d')[i]?=some d':=by
  have:=(yV.1 h).1;simp [this]
 have:=tv h1;rw [List.eraseIdx_set_eq]at this;exact this.symm
theorem kq.app{A B:az}{H H':List az}(h:kq A B H H')(F:List az):kq A B (H++F) (H'++F):=by
 induction h with
 |head=>exact kq.head
 |tail _ ih=>exact kq.tail ih
theorem FQ{d d':Nd}(hl:d'.rl=d.rl)(hr:d'.rr=d.rr):∀{N:List Nd} {i:Nat},N[i]?=some d→kq d.A d'.A (eZ N) (eZ (N.set i d'))
 |[],i,h=>by simp at h
 |e::N,0,h=>by
  simp only [wZ,yJ]at h;subst h;show kq e.A d'.A (e.A::e.rl.A::e.rr.A::eZ N) (d'.A::d'.rl.A::d'.rr.A::eZ N);rw [hl,hr];exact kq.head
 |e::N,i+1,h=>.tail (.tail (.tail (FQ hl hr (N:=N) (i:=i) J5)))
theorem Rw.shape{m0 m:World}{M0 X:List Nat}{H:List az}{r:Rw}(hS:Tr m0 M0 X m H)(hm:r.A∈H):∃A c,r.v=.slice A r.xs.length c∧r.xs.length≤c:=
 Ev.Own.shape (show Ev.Own m r.S 176 1 r.v r.xs.length (r.xs.map pA) from hS.mem hm)
theorem Rw.sl{m0 m:World}{M0 X:List Nat}{H:List az}{r:Rw}(hS:Tr m0 M0 X m H)(hm:r.A∈H):Sl m [] 1 r.v (r.xs.map pA):=hS.aW (show aF r.S 176 1 r.v r.xs.length (r.xs.map pA)∈H from hm)
theorem Lay.get(h:Lay q N){i:Nat}(hi:i<q.us.length):∃d,N[i]?=some d∧d∈N∧d.a=q.a i∧d.u=q.u i:=by
 have hl:N.length=q.us.length:=by rw [←h.us,uF]
 have aM:i<N.length:=by omega
 refine ⟨N[i],xW aM,vF aM,?_,?_⟩
 ·simp [Sq.a,←h.ad,xW aM]
 ·simp [Us.u,←h.us,xW aM]
end
theorem C9(s:Nat):bu Tryz.prog 43 [pA s] [] (fun v H=>∃bx,v=.func (.func 90) #[] #[pA bx]∧H=[ab bx 105 [pA s]]):=by
 intro m0 X hS;refine aP.zA Tryz.func43 ?_;refine aa5 ?_;intro b1 m hS;exact ah2
structure GC(q:Sq)(bx s:Nat)(c0 c2 c3 c4:Value)(ord:Rw)(H:List az):Prop where
 bx:ab bx 105 [pA s]∈H
 s:ab s 175 [c0,ord.v,c2,c3,c4]∈H
 o:ord.A∈H
 ox:ord.xs=q.F.flat.map q.a
 n:∀i∈q.F.flat,∃p lv rv sz,ab (q.a i) 178 (nC (q.u i) p lv rv sz)∈H
theorem wk(q:Sq)(bx s:Nat)(c0 c2 c3 c4:Value)(ord:Rw)(hb:q.F.flat.length≤1000000):
  PS Tryz.prog 90 [pA bx] (fun x:Nat×Un=>[.int .i64 x.1,uV x.2]) (fun pre x=>x.1=pre.length∧q.ax[pre.length]?=some x.2) (fun xs=>xs.length=q.ax.length) (fun _ H=>GC q bx s c0 c2 c3 c4 ord H):=by
 intro l I Ix m0 m M0 X H h0 hS gn hy;have hV:=gn [] H h0;have hn:ord.xs.length=q.ax.length:=by rw [hV.ox,uF,Us.ax,uF]
 obtain ⟨A,c,hv,hc⟩:=Rw.shape hS hV.o;refine aP.zA Tryz.func90 ?_;refine go ?_;refine RL.iU aa hS rfl rfl rfl hV.bx rfl rfl ?_;refine go ?_;refine RL.iU aa hS rfl rfl rfl hV.s rfl rfl ?_;rw [hv];refine go ?_;refine (WP.loop (X:=List (Nat×Un)×List az) (fun x=>[(0,.func (.yield l) #[] #[]),(1,pA bx),(8,.slice A ord.xs.length c),(9,.int .i64 ord.xs.length),(10,.int .i64 x.1.length)])
  (fun x m'=>I x.1 x.2∧Tr m0 M0 X m' x.2∧x.1.length≤ord.xs.length) (fun x=>ord.xs.length-x.1.length) ([],H)
  YC ⟨h0,hS,yI _⟩ ?_)
 clear hS h0 hV;rintro ⟨pre,H1⟩ m1 ⟨hI,hS,hle⟩;dsimp only at hI hS hle ⊢;have hV:=gn pre H1 hI;refine go ?_;refine WP.cond rfl (fun hc=>?_) (fun hc=>?_)
 ·have aM:pre.length<ord.xs.length:=by have:=xS hc;omega
  have U8:pre.length<q.F.flat.length:=by have:=xZ List.length hV.ox;simp only [uF]at this;omega
  obtain ⟨i,hi⟩:=zQ U8;obtain ⟨p,lv,rv,sz,hN⟩:=hV.n i (xU hi);obtain ⟨g,c',iI,ZE,n9,_⟩:=hS.dG (show aF ord.S 176 1 ord.v ord.xs.length (ord.xs.map pA)∈H1 from hV.o) J9;have fQ:=Rw.sl hS hV.o;rw [hv]at iI fQ;cases iI;have hx:(ord.xs.map pA)[pre.length*1]?=some (pA (q.a i)):=by rw [uO,hV.ox,uM,xM,hi];rfl
  refine go ?_;refine RL.GX aa fQ hx rfl rfl rfl rfl rfl rfl ?_;refine go ?_;refine RL.yield rfl rfl rfl (hy pre (pre.length,q.u i) [] m1 H1 hI ⟨rfl,by simp [Us.ax,hi]⟩ hS) ?_ ?_ ?_
  ·rintro v m2 ⟨H2,oN,hr⟩;clear hS;rcases hr with⟨he,sK⟩|⟨he,sK⟩<;>cases he
   ·refine aa1 ?_;have hS:=oN;refine go ?_;refine QN.round (pre++[(pre.length,q.u i)],H2) ?_ ⟨sK,hS,J6⟩ J6;refine Sub.C1 rfl (Sub.C1 rfl (Sub.C1 rfl (Sub.C1 rfl (Sub.C1 ?_ Sub.nil))));show some (Value.int .i64 (IntKind.i64.wrap ((pre.length:Int)+1)))=some (.int .i64 ((pre++[(pre.length,q.u i)]).length:Nat));rw [ag _ J9 J9];simp
   ·refine aa1 ?_;have hS:=oN;refine go ?_;exact QN.GK rfl ⟨_,rfl,.inr ⟨_,H2,sK,oN⟩⟩
  ·rintro ch m2 ⟨H2,_,⟨he,_⟩|⟨he,_⟩⟩<;>cases he
  ·rintro m2 ⟨H2,_,⟨he,_⟩|⟨he,_⟩⟩<;>cases he
 ·refine WP.exit ?_;refine YH ?_;have fW:pre.length=ord.xs.length:=by have:=vX hc;omega
  exact QN.kg rfl ⟨_,rfl,.inl ⟨pre,H1,J9,hI,hS⟩⟩
def pI(p:Option Nat):Int:=match p with
 |none=>-1
 |some i=>i
structure RM where
 d:RN
 vl:Value
 vm:Value
def fV(r:RM):List Value:=[.int .u64 r.d.u.id.c,.int .u64 r.d.u.id.k,.int .u64 r.d.u.l.c,.int .u64 r.d.u.l.k,.int .u64 r.d.u.r.c,.int .u64 r.d.u.r.k,.int .i64 (pI r.d.p),.bool r.d.s,r.vl,r.vm]
def jC(i:Nat):List Value:=[.int .i64 i]
theorem dL(i:Nat):(jC i).length=1:=rfl
theorem bD(r:RM):(fV r).length=10:=rfl
structure x7(L:List az)(s:Nat)(N:List RM)(O:List Nat)(v vm vo:Value):Prop where
 s:ab s 162 [v,vm,vo]∈L
 l:Vw L 10 v (N.flatMap fV)
 o:Vw L 1 vo (O.flatMap jC)
theorem x7.sub{L H:List az}{s:Nat}{N:List RM}{O:List Nat}{v vm vo:Value}(h:x7 L s N O v vm vo)(hs:∀A∈L,A∈H):x7 H s N O v vm vo:=⟨hs _ h.s,h.l.sub hs,h.o.sub hs⟩
theorem x7.cons{L:List az}{A:az}{s:Nat}{N:List RM}{O:List Nat}{v vm vo:Value}(h:x7 L s N O v vm vo):x7 (A::L) s N O v vm vo:=h.sub fun _ hm=>zO _ hm
def ou(N:List RM)(id:aL):Option Nat:=N.findIdx? fun r=>decide (r.d.u.id=id)
def oI(o:Option Nat):Int:=match o with
 |none=>-1
 |some i=>i
theorem nJ(L:List az)(s:Nat)(N:List RM)(O:List Nat)(v vm vo:Value)(hV:x7 L s N O v vm vo)(hl:N.length≤1000000)(id:aL):bu Tryz.prog 141 [pA s,iV id] L (fun r H=>r=.int .i64 (oI (ou N id))∧H=L):=by
 intro m0 X hS;obtain ⟨M0,bR⟩:=zP (au L);rw [←bR]at hS ⊢;have hN:=hV.s;obtain ⟨A,c,rfl,_,_,hA⟩:=Sl.gY fV bD (hV.l.at_ hS) J8;refine aP.zA Tryz.func141 ?_;refine ah ?_
 (try clear hS);intro b3 m hS;refine aa7 ?_
 refine (WP.loop (X:=Nat) (fun i=>[(0,pA s),(3,pA b3),(5,.int .i64 i)])
  (fun i m'=>i≤N.length∧(∀j,j<i→∀r,N[j]?=some r→r.d.u.id≠id)∧Tr m0 M0 X m' (ab b3 30 (iC id)::L)) (fun i=>N.length-i) 0
  YC ⟨yI _,fun j hj=>absurd hj J9,hS⟩ ?_)
 clear hS;rintro i m ⟨hi,hb,hS⟩;dsimp only at hi hb hS ⊢;refine ah ?_;rcases xA i N.length with aM|fW
 ·rw [zW (show(i:Int)<(N.length:Int) by omega)];refine ah ?_;obtain ⟨r,hr⟩:=zQ aM;obtain ⟨ad,rfl⟩:=hA i r hr;refine WP.bG (ab b3 30 (iC id)::L) hS (an.self _) J7 ?_;refine ah ?_;refine RH.fg aa ai.calm fV bD (Vw.js hV.l.cons) hr 0 (iC r.d.u.id) rfl rfl rfl J7 rfl rfl rfl Jm rfl rfl rfl ?_;refine ah ?_;refine RH.bin (cX r.d.u.id id) (aY _ _ _ _ _) ?_;refine ah ?_
  by_cases he:r.d.u.id=id
  ·rw [zW he];refine ah ?_;refine QN.aj rfl rfl ⟨_,rfl,_,⟨?_,rfl⟩,hS.tail⟩;have:ou N id=some i:=by
    refine uA.2 ⟨aM,?_,fun j hj=>?_⟩
    ·rw [xW aM]at hr;cases hr
     simpa using he
    ·simpa using hb j hj _ (xW J9)
   rw [this];rfl
  ·rw [zV he];refine ah ?_;have hw:IntKind.i64.wrap ((i:Int)+1)=((i+1:Nat):Int):=by rw [ag _ J9 J9];simp
   rw [hw];refine QN.round (i+1) YC ⟨aM,fun j hj r' iQ=>?_,hS⟩ J9;rcases xA j i with h|h
   ·exact hb j h r' iQ
   ·obtain rfl:j=i:=by omega
    rw [hr]at iQ;cases iQ;exact he
 ·rw [zV (show¬(i:Int)<(N.length:Int) by omega)];refine ah ?_;refine QN.aj rfl rfl ⟨_,rfl,_,⟨?_,rfl⟩,hS.tail⟩;have:ou N id=none:=by
   refine uE.2 fun r hr=>?_
   obtain ⟨j,hj,rfl⟩:=xT hr
   simpa using hb j J9 _ (xW hj)
  rw [this];rfl
theorem qA(L:List az)(s:Nat)(N:List RM)(O:List Nat)(v vm vo:Value)(hV:x7 L s N O v vm vo)(hl:O.length≤1000000)(k:Nat):bu Tryz.prog 142 [pA s,.int .i64 k] L (fun r H=>r=.int .i64 (oI (O.findIdx? (·==k)))∧H=L):=by
 intro m0 X hS;obtain ⟨M0,bR⟩:=zP (au L);rw [←bR]at hS ⊢;have hN:=hV.s;obtain ⟨A,c,rfl,_,_,hA⟩:=Sl.gY jC dL (hV.o.at_ hS) J8;refine aP.zA Tryz.func142 ?_;refine ah ?_;refine (WP.loop (X:=Nat) (fun i=>[(0,pA s),(1,.int .i64 k),(5,.int .i64 i)])
  (fun i m'=>i≤O.length∧(∀j,j<i→∀r,O[j]?=some r→r≠k)∧Tr m0 M0 X m' L) (fun i=>O.length-i) 0
  YC ⟨yI _,fun j hj=>absurd hj J9,hS⟩ ?_)
 clear hS;rintro i m ⟨hi,hb,hS⟩;dsimp only at hi hb hS ⊢;refine ah ?_;rcases xA i O.length with aM|fW
 ·rw [zW (show(i:Int)<(O.length:Int) by omega)];refine ah ?_;obtain ⟨r,hr⟩:=zQ aM;obtain ⟨ad,rfl⟩:=hA i r hr;refine ah ?_;refine RL.kh aa jC dL (hV.o.at_ hS) hr 0 rfl rfl rfl rfl rfl rfl rfl ?_;refine ah ?_
  by_cases he:r=k
  ·subst he;rw [show((r:Int)==(r:Int))=true by simp];refine ah ?_;refine QN.aj rfl rfl ⟨_,rfl,_,⟨?_,rfl⟩,hS⟩;have:O.findIdx? (·==r)=some i:=by
    refine uA.2 ⟨aM,?_,fun j hj=>?_⟩
    ·rw [xW aM]at hr;cases hr;simp
    ·simpa using hb j hj _ (xW J9)
   rw [this];rfl
  ·rw [show((r:Int)==(k:Int))=false by simpa using fun h=>he J9];refine ah ?_;have hw:IntKind.i64.wrap ((i:Int)+1)=((i+1:Nat):Int):=by rw [ag _ J9 J9];simp
   rw [hw];refine QN.round (i+1) YC ⟨aM,fun j hj r' iQ=>?_,hS⟩ J9;rcases xA j i with h|h
   ·exact hb j h r' iQ
   ·obtain rfl:j=i:=by omega
    rw [hr]at iQ;cases iQ;exact he
 ·rw [zV (show¬(i:Int)<(O.length:Int) by omega)];refine ah ?_;refine QN.aj rfl rfl ⟨_,rfl,_,⟨?_,rfl⟩,hS⟩;have:O.findIdx? (·==k)=none:=by
   refine uE.2 fun r hr=>?_
   obtain ⟨j,hj,rfl⟩:=xT hr
   simpa using hb j J9 _ (xW hj)
  rw [this];rfl
theorem wu(L:List az)(s:Nat)(N:List RM)(O:List Nat)(v vm vo:Value)(hV:x7 L s N O v vm vo)(hl:N.length≤1000000)(hO:O.length≤1000000)(id:aL):bu Tryz.prog 94 [pA s,iV id] L (fun r H=>r=.int .i64 (match ou N id with|none=>-1|some i=>oI (O.findIdx? (·==i)))∧H=L):=by
 intro m0 X hS;refine aP.zA Tryz.func94 ?_;refine ah ?_
 (try clear hS);intro b3 m hS;refine aa7 ?_
 refine RL.cL (nJ _ s N O v vm vo hV.cons hl id) fun m hS=>?_
 refine ah ?_;cases hn:ou N id with
 |none=>
  refine ah ?_;exact QN.aj rfl rfl ⟨_,rfl,_,⟨rfl,rfl⟩,hS.tail⟩
 |some i=>
  rw [zV (show¬oI (some i)<0 by simp only [oI];omega)];refine ah ?_;refine RL.cL (qA _ s N O v vm vo hV.cons hO i) fun m hS=>?_
  refine ah ?_;exact QN.aj rfl rfl ⟨_,rfl,_,⟨rfl,rfl⟩,hS.tail⟩
theorem Mz(L:List az)(s:Nat)(N:List RM)(O:List Nat)(v vm vo:Value)(hV:x7 L s N O v vm vo):bu Tryz.prog 37 [pA s] L (fun r H=>r=.int .i64 O.length∧H=L):=by
 intro m0 X hS;have hN:=hV.s;obtain ⟨A,c,rfl,_,_,hA⟩:=Sl.gY jC dL (hV.o.at_ hS) J8;refine aP.zA Tryz.func37 ?_;refine ah ?_;exact QN.aj rfl rfl ⟨_,rfl,_,⟨rfl,rfl⟩,hS⟩
def qY(N:List RM)(O:List Nat)(i:Int):Option Un:=if i<0 then none else(O[i.toNat]?).bind fun k=>(N[k]?).map fun r=>r.d.u
theorem Tl(L:List az)(s:Nat)(N:List RM)(O:List Nat)(v vm vo:Value)(hV:x7 L s N O v vm vo)(hO:∀k∈O,k<N.length)(i:Int):bu Tryz.prog 38 [pA s,.int .i64 i] L (fun r H=>r=.tuple #[uV ((qY N O i).getD ⟨⟨0,0⟩,⟨0,0⟩,⟨0,0⟩⟩),.bool (qY N O i).isSome]∧H=L):=by
 intro m0 X hS;obtain ⟨M0,bR⟩:=zP (au L);rw [←bR]at hS ⊢;have hN:=hV.s;obtain ⟨A,c,rfl,_,_,hA⟩:=Sl.gY jC dL (hV.o.at_ hS) J8;obtain ⟨B,c2,rfl,_,_,hB⟩:=Sl.gY fV bD (hV.l.at_ hS) J8;refine aP.zA Tryz.func38 ?_;refine ah ?_
 (try clear hS);intro b4 m hS;refine aa7 ?_
 by_cases h0:i<0
 ·rw [zW h0];refine ah ?_
  (try clear hS);intro m hS;refine ah ?_
  exact QN.bH (bY.cg aa hS rfl rfl rfl rfl JQ) ⟨_,rfl,_,⟨by rw [qY,yS h0];rfl,rfl⟩,hS.tail⟩
 ·rw [zV h0];refine ah ?_;rcases xA i.toNat O.length with aM|fW
  ·rw [zV (show¬i≥(O.length:Int) by omega)];refine ah ?_;obtain ⟨k,hk⟩:=zQ aM;obtain ⟨r,hr⟩:∃r,N[k]?=some r:=⟨_,xW (hO k (xU hk))⟩;have zp:=(yV.1 hr).1;obtain ⟨ad,rfl⟩:=hA _ k hk;obtain ⟨ad2,rfl⟩:=hB k r hr;refine WP.bG L hS (an.ay fun _ h=>zO _ h) J7 ?_;refine ah ?_;refine RH.ix (k:=i.toNat) aa ai.calm rfl J7 rfl rfl rfl rfl rfl rfl rfl J9 aM rfl ?_;refine ah ?_;refine RH.kh aa ai.calm jC dL (Vw.js hV.o) hk 0 rfl rfl J7 rfl rfl rfl rfl rfl rfl rfl ?_;refine ah ?_;refine RH.fg aa ai.calm fV bD (Vw.js hV.l) hr 0 (uC r.d.u) rfl rfl rfl J7 rfl rfl rfl Jm rfl rfl rfl ?_;refine ah ?_
   (try clear hS);intro m hS;refine ah ?_
   have he:qY N O i=some r.d.u:=by rw [qY,zX h0,hk];simp [hr]
   exact QN.bH (bY.cg aa hS rfl rfl rfl rfl JQ) ⟨_,rfl,_,⟨by rw [he];rfl,rfl⟩,hS.tail⟩
  ·rw [zW (show i≥(O.length:Int) by omega)];refine ah ?_
   (try clear hS);intro m hS;refine ah ?_
   have he:qY N O i=none:=by rw [qY,zX h0,tK fW];rfl
   exact QN.bH (bY.cg aa hS rfl rfl rfl rfl JQ) ⟨_,rfl,_,⟨by rw [he];rfl,rfl⟩,hS.tail⟩
theorem p7(a b:aL):ee Tryz.prog 116 [iV a,iV b] [] (.bool (a.lt b)):=by
 intro m X hS;refine (E3 m a b).mono ?_;rintro r m' ⟨h1,h2⟩;exact ⟨[],⟨h1,rfl⟩,hS.calm h2⟩
def Ot(N:List RM)(O:List Nat)(id:aL):Int:=match ou N id with
 |none=>-1
 |some i=>oI (O.findIdx? (·==i))
def jm(N:List RM)(O:List Nat)(u:Un):Int:=if u.r=⟨0,0⟩then O.length+1 else Ot N O u.r
def kD(N:List RM)(O:List Nat)(x y:Un):Bool:=if jm N O x=jm N O y then x.id.lt y.id else decide (jm N O x>jm N O y)
theorem E4(L:List az)(s:Nat)(N:List RM)(O:List Nat)(v vm vo:Value)(hV:x7 L s N O v vm vo)(hl:N.length≤1000000)(hO:O.length≤1000000)(a b:Nat)(x y:RM)(hx:N[a]?=some x)(hy:N[b]?=some y):
  bu Tryz.prog 220 [pA s,.int .i64 a,.int .i64 b] L (fun r H=>r=.bool (kD N O x.d.u y.d.u)∧H=L):=by
 intro m0 X hS;obtain ⟨M0,bR⟩:=zP (au L);rw [←bR]at hS ⊢;have hN:=hV.s;have Bz:=(yV.1 hx).1;have KT:=(yV.1 hy).1;obtain ⟨A,c,rfl,_,_,hA⟩:=Sl.gY jC dL (hV.o.at_ hS) J8;obtain ⟨B,c2,rfl,_,_,hB⟩:=Sl.gY fV bD (hV.l.at_ hS) J8;obtain ⟨ad2,rfl⟩:=hB a x hx;have hw:IntKind.i64.wrap ((O.length:Int)+1)=(O.length:Int)+1:=ag _ J9 J9;refine aP.zA Tryz.func220 ?_;refine ah ?_;refine WP.fk hS rfl J7 ?_;refine aZ ?_;refine RH.stop YB (QN.calm (QN.N1 ?_));rw [hw];refine WP.cut (X:=Unit) (fun _=>[(0,pA s),(1,.int .i64 a),(2,.int .i64 b),(7,.int .i64 (jm N O x.d.u)),(8,.int .i64 ((O.length:Int)+1))]) (fun _ m'=>Tr m0 M0 X m' L) ?_ ?_
 ·refine ah ?_;refine RL.fg aa fV bD (hV.l.at_ hS) hx 4 (iC x.d.u.r) rfl rfl rfl rfl Jm rfl rfl rfl ?_;refine ah ?_
  (try clear hS);intro b9 m hS;refine aa7 ?_
  (try clear hS);intro m hS;refine ah ?_
  refine RL.binOp (ni x.d.u.r ⟨0,0⟩) (aY _ _ _ _ _) rfl rfl rfl rfl ?_
  by_cases h0:x.d.u.r=⟨0,0⟩
  ·rw [zW h0];refine ah ?_;exact QN.ar () (Sub.C1 rfl (Sub.C1 rfl (Sub.C1 rfl (Sub.C1 (by rw [jm,yS h0];rfl) YC)))) hS.tail
  ·rw [zV h0];refine ah ?_;refine RL.cL (wu _ s N O _ vm _ hV.cons hl hO x.d.u.r) fun m hS=>?_
   refine ah ?_;exact QN.ar () (Sub.C1 rfl (Sub.C1 rfl (Sub.C1 rfl (Sub.C1 (by rw [jm,zX h0];rfl) YC)))) hS.tail
 clear hS;rintro _ m hS;obtain ⟨ad3,e3⟩:=hB b y hy;cases e3;refine WP.cut (X:=Unit) (fun _=>[(0,pA s),(1,.int .i64 a),(2,.int .i64 b),(7,.int .i64 (jm N O x.d.u)),(8,.int .i64 (jm N O y.d.u))]) (fun _ m'=>Tr m0 M0 X m' L) ?_ ?_
 ·refine ah ?_;refine RL.fg aa fV bD (hV.l.at_ hS) hy 4 (iC y.d.u.r) rfl rfl rfl rfl Jm rfl rfl rfl ?_;refine ah ?_
  (try clear hS);intro b9 m hS;refine aa7 ?_
  (try clear hS);intro m hS;refine ah ?_
  refine RL.binOp (ni y.d.u.r ⟨0,0⟩) (aY _ _ _ _ _) rfl rfl rfl rfl ?_
  by_cases h0:y.d.u.r=⟨0,0⟩
  ·rw [zW h0];refine ah ?_;exact QN.ar () (Sub.C1 rfl (Sub.C1 rfl (Sub.C1 rfl (Sub.C1 rfl (Sub.C1 (by rw [show jm N O y.d.u=(O.length:Int)+1 from yS h0];rfl) Sub.nil))))) hS.tail
  ·rw [zV h0];refine ah ?_;refine RL.cL (wu _ s N O _ vm _ hV.cons hl hO y.d.u.r) fun m hS=>?_
   refine ah ?_;exact QN.ar () (Sub.C1 rfl (Sub.C1 rfl (Sub.C1 rfl (Sub.C1 rfl (Sub.C1 (by rw [show jm N O y.d.u=Ot N O y.d.u.r from zX h0];rfl) Sub.nil))))) hS.tail
 clear hS;rintro _ m hS;refine ah ?_
 by_cases he:jm N O x.d.u=jm N O y.d.u
 ·rw [show(jm N O x.d.u !=jm N O y.d.u)=false by simp [he]];refine ah ?_;refine WP.fk hS rfl J7 ?_;refine ah ?_;refine RH.fg aa ai.calm fV bD (Vw.js hV.l) hx 0 (iC x.d.u.id) rfl rfl rfl J7 rfl rfl rfl Jm rfl rfl rfl ?_;refine ah ?_;refine RH.fg aa ai.calm fV bD (Vw.js hV.l) hy 0 (iC y.d.u.id) rfl rfl rfl J7 rfl rfl rfl Jm rfl rfl rfl ?_;refine ah ?_;refine RH.cU (p7 x.d.u.id y.d.u.id) fun m hS=>?_
  refine ah ?_;exact QN.aj rfl rfl ⟨_,rfl,_,⟨by rw [kD,yS he],rfl⟩,hS⟩
 ·rw [show(jm N O x.d.u !=jm N O y.d.u)=true by simp [he]];refine ah ?_;exact QN.aj rfl rfl ⟨_,rfl,_,⟨by rw [kD,zX he],rfl⟩,hS⟩
theorem rJ(L:List az)(v:Value)(xs:List Nat)(hV:Vw L 1 v (xs.flatMap jC))(at_ k:Nat)(pg:at_≤xs.length)(hl:xs.length≤1000000):
  bu Tryz.prog 188 [v,.int .i64 at_,.int .i64 k] L (fun r H=>∃S,H=aF S 3 1 r (aB at_ k xs).length ((aB at_ k xs).flatMap jC)::L):=by
 intro m0 X hS;obtain ⟨M0,bR⟩:=zP (au L);rw [←bR]at hS ⊢;obtain ⟨A,c,rfl,hc,kl,hA⟩:=Sl.gY jC dL (hV.at_ hS) J8;have kd:∀l:List Nat,(l.flatMap jC).length=l.length:=fun l=>by induction l with|nil=>rfl|cons a l ih=>rw [vH,zY,ih,dL,yF];omega
 have rI:∀l:List Nat,∀u∈l.flatMap jC,u.oneCell'=true:=fun l u hu=>by
  obtain ⟨a,_,ha⟩:=vS.1 hu;simp only [jC,zT]at ha;subst ha;rfl
 refine aP.zA Tryz.func188 ?_;refine ah ?_;have qo:=(hV.at_ hS).upto (l:=at_) (k:=c) pg (wG pg hc) (yP _);rw [uO]at qo;have e1:(xs.flatMap jC).take at_=(xs.take at_).flatMap jC:=by
  conv=>lhs;rw [←yG at_ xs,vG]
  rw [tE (by rw [kd,yA];omega)]
 have e2:(xs.flatMap jC).drop at_=(xs.drop at_).flatMap jC:=by
  conv=>lhs;rw [←yG at_ xs,vG]
  rw [List.drop_left' (by rw [kd,yA];omega)]
 rw [e1]at qo;refine RL.sliceTo (l:=at_) aa rfl rfl rfl rfl rfl J9 rfl ?_;have N6:=hS.empty 3 1 none;refine RL.dx aa N6 ((xs.take at_).flatMap jC) (k:=at_) rfl rfl rfl rfl rfl .head (Src.cS qo) (by show _=at_*1;rw [kd,yA];omega) (rI _) Jy (by show(0+at_)*8≤_;omega) ?_;clear hS N6 qo;intro v1 m S1 hS;rw [yC,zU]at hS;refine ⟨_,rfl,?_⟩;refine ah ?_;refine WP.bG L hS (an.ay fun a ha=>zO _ ha) J7 ?_;refine aZ ?_;refine RH.sliceFrom aa ai.calm 6 (l:=at_) rfl J7 rfl rfl rfl rfl rfl pg rfl ?_;refine aZ ?_;refine RH.one rfl J7 rfl ?_;refine RL.aA aa hS [.tmp 13] (us:=[.int .i64 k]) (jC k) rfl rfl rfl rfl rfl rfl JO rfl rfl rfl ?_;clear hS;intro b2 m hS;refine ⟨_,rfl,?_⟩;refine RL.N1 (RH.aD hS (an.ay fun a ha=>zO _ (zO _ ha)) ?_);refine aZ ?_;refine RH.one rfl J7 rfl ?_;have h2:Sl m [] 1 (.slice (some ⟨b2,0,none⟩) 1 1) (jC k):=hS.aW (zS ..);refine RL.dx aa hS (jC k) (k:=1) rfl rfl rfl rfl rfl (.tail .head) (Src.cS h2) rfl (by intro u hu;simp only [jC,zT]at hu;subst hu;rfl) Jy (by show(at_+1)*8≤_;omega) ?_;clear hS h2;intro v3 m S3 hS;refine ⟨_,rfl,?_⟩;refine RL.N1 (RH.aD hS (an.ay fun a ha=>zO _ (zO _ ha)) ?_);refine aZ ?_;refine RH.one rfl J7 rfl ?_;have Kg:=(hV.cons.cons.at_ hS).from_ (l:=at_) pg;rw [show(xs.flatMap jC).drop (at_*1)=(xs.drop at_).flatMap jC by rw [uO,e2]]at Kg;refine RL.dx aa hS ((xs.drop at_).flatMap jC) (k:=xs.length-at_) rfl rfl rfl rfl rfl .head (Src.cS Kg) (by show _=(xs.length-at_)*1;rw [kd,zZ];omega) (rI _) Jy (by show(at_+1+(xs.length-at_))*8≤_;omega) ?_;clear hS Kg;intro v4 m S4 hS;refine ⟨_,rfl,?_⟩;refine RL.N1 (RH.aD hS (an.ay fun a ha=>zO _ (zO _ ha)) ?_);refine ah ?_;have e3:(xs.take at_).flatMap jC++jC k++(xs.drop at_).flatMap jC=(aB at_ k xs).flatMap jC:=by
  simp [aB]
 have e4:at_+1+(xs.length-at_)=(aB at_ k xs).length:=by rw [bO];omega
 rw [e3,e4]at hS;exact QN.aj rfl rfl ⟨_,rfl,_,⟨S4,rfl⟩,(hS.perm (List.Perm.cons _ (xI (l₁:=[_]) (l₂:=L)))).drop (H:=_::L)⟩
theorem s4{q:Sq}(h:q.Ok){at_:List (aL×Value)}{n i:Nat}(hi:q.F.flat[n]?=some i)(ha:∀k j:Nat,k<n→q.F.flat[k]?=some j→bj at_ (q.u j).id=some (.int .i64 k)):
  ∀k j:Nat,k<n+1→q.F.flat[k]?=some j→bj (cI at_ (q.u i).id (.int .i64 n)) (q.u j).id=some (.int .i64 k):=by
 intro k j hk hj;rw [lR];have hG:=(h.mem i).1 (xU hi);have x8:=(h.mem j).1 (xU hj)
 by_cases e:k=n
 ·subst e;rw [hi]at hj;cases hj;rw [yS rfl]
 ·have dP:(q.u i).id≠(q.u j).id:=fun hh=>e (by
   have e1:=h.kB hG;rw [hh,h.kB x8]at e1;cases e1;exact (vZ (yV.1 hj).1 h.nd).1 (hj.trans hi.symm))
  rw [zX dP];exact ha k j J9 hj
theorem pJ.view{q:Sq}{fr:Bool}{at_:List (aL×Value)}{ord ro:Rw}{N:List Nd}(k:pJ q fr at_ ord ro N){bx s:Nat}{c0 c2 c3 c4:Value}{H:List az}(h1:ab bx 105 [pA s]∈H)(h2:ab s 175 [c0,ord.v,c2,c3,c4]∈H)(h3:ord.A∈H)(h4:∀A∈eZ N,A∈H):GC q bx s c0 c2 c3 c4 ord H where
 bx:=h1
 s:=h2
 o:=h3
 ox:=k.o
 n:=fun i hi=>by
  obtain ⟨d,h5,h6,h7,h8⟩:=k.l.get ((k.ok.mem i).1 hi);exact ⟨d.p,d.rl.v,d.rr.v,d.sz,h4 _ (h7▸h8▸(bc h6).1)⟩
theorem _root_.Go.Ev.Tr.mK{m0 m:World}{M0 X:List Nat}{K G L:List az}(h:Tr m0 M0 X m (K++(G++L))):Tr m0 M0 X m (K++(L++G)):=h.perm (List.perm_append_comm.append_left K)
theorem ml(S:List Nat)(s:Nat)(q:Sq)(id:aL):bu Tryz.prog 88 [pA s,iV id] [a7 S s q] (fun v H=>v=.int .i64 (q.find id)∧∃S',H=[a7 S' s q]):=by
 intro m0 X hS;obtain ⟨ra,rt,fr,at_,ord,ro,N,k,hS⟩:=bl hS;refine aP.zB Tryz.func88 ?_;refine aa5 ?_;intro b1 m hS;refine ag1 ?_;intro b2 m hS;have hg:=k.get id;cases hi:q.idx id with
 |none=>
  rw [hi]at hg;refine ad4 ?_;have he:q.find id=-1:=by simp [Us.find,hi]
  obtain ⟨S',iG⟩:=a8 k hS.tail.tail;exact QN.ng (.inl rfl) (bY.tmp rfl rfl) ⟨_,rfl,_,⟨he▸rfl,S',rfl⟩,iG⟩
 |some i=>
  rw [hi]at hg;have aM:=(Us.ba hi).1;have he:q.find id=q.place i:=by simp [Us.find,hi]
  refine ad4 ?_;cases fr with
  |true=>
   have pg:=k.f rfl _ _ (k.ok.cF aM);rw [(Us.ba hi).2]at pg;refine go ?_;refine RH.lookup (v:=.int .i64 (q.place i)) aa ai.calm ko rfl J7 rfl rfl rfl rfl rfl rfl rfl JQ (by rw [pg];rfl) rfl ?_;refine go ?_;obtain ⟨S',iG⟩:=a8 k hS.tail.tail;exact QN.ng (.inl rfl) (bY.tmp rfl rfl) ⟨_,rfl,_,⟨he▸rfl,S',rfl⟩,iG⟩
  |false=>
   refine go ?_;refine zF (C9 s) ?_
   (try clear hS);rintro _ m3 _ ⟨bx,rfl,rfl⟩ hS;simp only [zC,zN]at hS;refine aa1 ?_
   refine go ?_;have VP:q.F.flat.length≤1000000:=by rw [k.ok.fe];exact k.ep
   refine WP.jt (β:=Nat) (fun x:Nat×Un=>[.int .i64 x.1,uV x.2]) rfl (wk q bx s (.map (some ra)) ro.v (.map (some rt)) (.bool false) ord VP) ⟨_,Tryz.func90,J7,J7⟩ hS
    (fun pre H=>∃at',H=ab bx 105 [pA s]::ab b2 30 (iC id)::ab b1 105 [pA s]::fU q s ra rt false at' ord ro N []∧
     ∀k j:Nat,k<pre.length→q.F.flat[k]?=some j→bj at' (q.u j).id=some (.int .i64 k)) (fun _ _ _=>False) ⟨at_,rfl,fun _ _ h=>(by simp at h)⟩ ?_ _ (fun _=>rfl) (fun _=>rfl)
    (fun x b=>[(2,pA b1),(3,.pointer (some ⟨b2,0,none⟩)),(4,.int .i64 0),(5,.int .i64 x.1),(6,pA b)]) (fun x b G=>G=[ab b 101 (uC x.2)]) ?_ ?_ ?_ ?_
   ·rintro pre H C ⟨at',rfl,_⟩;exact k.view YA YA YA (fun A hA=>by simp [hA])
   ·intro l C pre x G m1 H1 _ _ hS;refine go ?_;refine ac3 ?_;(try clear hS);intro b m hS;refine ab4 ?_;refine aa2 ?_;intro m hS;refine go ?_;exact QN.qE b _ YC hS rfl
   ·rintro l C pre x b _ G m2 _ ⟨at',rfl,ha⟩ ⟨sN,mH⟩ rfl hS;have hS:=hS.mK;simp only [zC,zN]at hS;obtain ⟨i,CY,VJ⟩:∃i,q.F.flat[pre.length]?=some i∧q.u i=x.2:=by simpa [Us.ax]using mH
    refine go ?_;refine RH.fD (k:=x.2.id) (v:=.int .i64 x.1) aa hS ko rfl J7 rfl rfl rfl rfl rfl rfl rfl JQ JN rfl J7 ?_;intro m hS;refine QN.calm ?_;refine YJ ?_;refine QN.fY (hS.tail.perm (xI (l₁:=C::ab bx 105 [pA s]::ab b2 30 (iC id)::ab b1 105 [pA s]::fU q s ra rt false (cI at' x.2.id (.int .i64 x.1)) ord ro N []))) ⟨cI at' x.2.id (.int .i64 x.1),rfl,?_⟩
    ·rw [zY,←VJ,sN];exact s4 k.ok CY ha
   ·rintro B r xs m' _ hl ⟨at',rfl,ha⟩ hS;refine aj0 ?_;intro m hS;have pg:=ha _ _ (by rw [hl,k.ok.sT];exact k.ok.lk aM) (k.ok.cF aM);rw [(Us.ba hi).2]at pg;refine go ?_;refine RH.lookup (v:=.int .i64 (q.place i)) aa ai.calm ko rfl J7 rfl rfl rfl rfl rfl rfl rfl JQ (by rw [pg];rfl) rfl ?_;refine go ?_;refine QN.jq (r:=.int .i64 (q.place i)) (.inl rfl) hS (fun m' hS=>?_);obtain ⟨S',iG⟩:=a8 (fr:=true) (at_:=at') ⟨k.o,k.r,k.l,k.ok,k.ep,fun _ a j hj=>ha a j (by have:=(yV.1 hj).1;rw [k.ok.fe]at this;rw [hl,k.ok.sT];exact this) hj⟩ hS.tail.tail.tail;exact ⟨bY.tmp rfl rfl,⟨_,rfl,_,⟨he▸rfl,S',rfl⟩,iG⟩⟩
   ·exact fun _ _ _ _ _ _ h _=>h.elim
theorem _root_.Go.Ev.ee.of{P:Program}{f:FuncId}{args:List Value}{u:Value}(h:∀m,dg P f args m fun r m'=>r=u∧Ext m [] m'):ee P f args [] u:=
 fun m0 _ hS=>(h m0).mono fun _ _ ⟨h1,h2⟩=>⟨[],⟨h1,rfl⟩,hS.calm h2⟩
theorem xf(x y:aL):ee Tryz.prog 184 [iV x,iV y] [] (.bool (x.lt y)):=ee.of fun m=>Hb m x y
theorem ja(x:aL):ee Tryz.prog 78 [iV x] [] (.bool x.right):=ee.of fun m=>zr m x
def qK(q:Sq)(E:List az)(b:Nat)(x:Un):Prop:=(∃i,i<q.us.length∧b=q.a i∧x=q.u i)∨∃p lv rv sz,ab b 178 (nC x p lv rv sz)∈E
theorem qK.mem{q:Sq}{E:List az}{b:Nat}{x:Un}(h:qK q E b x){fr:Bool}{at_:List (aL×Value)}{ord ro:Rw}{N:List Nd}(k:pJ q fr at_ ord ro N):∃p lv rv sz,ab b 178 (nC x p lv rv sz)∈eZ N++E:=by
 rcases h with⟨i,hi,rfl,rfl⟩|⟨p,lv,rv,sz,h⟩
 ·obtain ⟨d,h5,h6,h7,h8⟩:=k.l.get hi;exact ⟨d.p,d.rl.v,d.rr.v,d.sz,yW _ (h7▸h8▸(bc h6).1)⟩
 ·exact ⟨p,lv,rv,sz,yX _ h⟩
theorem Mo(S:List Nat)(s:Nat)(q:Sq)(E:List az)(b:Nat)(x:Un)(h:qK q E b x):bu Tryz.prog 287 [pA s,pA b] (a7 S s q::E) (fun v H=>v=.int .i64 (q.ej x)∧∃S',H=a7 S' s q::E):=by
 intro m0 X hS;obtain ⟨ra,rt,fr,at_,ord,ro,N,k,hS⟩:=bl hS;obtain ⟨p,lv,rv,sz,hN⟩:=h.mem k;obtain ⟨A,c,hv,hc⟩:=Rw.shape hS (r:=ord) YA;have hn:ord.xs.length=q.us.length:=by rw [k.o,uF,k.ok.fe]
 refine aP.zA Tryz.func287 ?_;refine go ?_
 by_cases hr:x.r=⟨0,0⟩
 ·have hp:=se x.r;rw [zW hr]at hp;refine zJ hp (fun m hS=>?_);refine go ?_;rw [hv];refine go ?_;obtain ⟨S',hS⟩:=a8 k hS;exact QN.aj rfl rfl ⟨_,rfl,_,⟨by rw [Us.ej,yS hr,hn],S',rfl⟩,hS⟩
 ·have hp:=se x.r;rw [zV hr]at hp;refine zJ hp (fun m hS=>?_);refine go ?_;obtain ⟨S',hS⟩:=a8 k hS;refine zD (ml S' s q x.r) ?_;rintro _ m _ ⟨rfl,S2,rfl⟩ hS;refine ⟨_,rfl,?_⟩;refine go ?_;exact QN.aj rfl rfl ⟨_,rfl,_,⟨by rw [Us.ej,zX hr],S2,rfl⟩,hS⟩
theorem CS(S:List Nat)(s:Nat)(q:Sq)(E:List az)(a b:Nat)(x y:Un)(h:qK q E a x)(h':qK q E b y):bu Tryz.prog 279 [pA s,pA a,pA b] (a7 S s q::E) (fun v H=>v=.bool (q.ahead x y)∧∃S',H=a7 S' s q::E):=by
 intro m0 X hS;refine aP.zA Tryz.func279 ?_;refine go ?_;refine RL.dr (F:=[]) (fi:=[]) (ca:=[]) hS (Mo S s q E a x h) rfl rfl rfl rfl (bk.self _) ?_;rintro _ m _ ⟨rfl,S1,rfl⟩ hS;simp only [vI]at hS;refine ab4 ?_;refine RL.dr (F:=[]) (fi:=[]) (ca:=[]) hS (Mo S1 s q E b y h') rfl rfl rfl rfl (bk.self _) ?_;rintro _ m _ ⟨rfl,S2,rfl⟩ hS;simp only [vI]at hS;refine ab4 ?_
 by_cases he:q.ej x=q.ej y
 ·refine WP.eqv (v':=.bool false) (by simp [he]) ?_;refine WP.bg rfl ?_;obtain ⟨ra,rt,fr,at_,ord,ro,N,k,hS⟩:=bl hS;obtain ⟨p,lv,rv,sz,hN⟩:=h.mem k;obtain ⟨p',lv',rv',sz',s3⟩:=h'.mem k;refine go ?_;refine RH.bU (fi:=[]) (ca:=[]) hS (xf x.id y.id) rfl J7 rfl rfl rfl rfl rfl JB (an.self _) rfl (fun m hS=>?_);refine go ?_;obtain ⟨S3,hS⟩:=a8 k hS;exact QN.aj rfl rfl ⟨_,rfl,_,⟨by rw [Us.ahead,yS he],S3,rfl⟩,hS⟩
 ·refine WP.eqv (v':=.bool true) (by simp [he]) ?_;refine WP.da rfl ?_;refine go ?_;exact QN.aj rfl rfl ⟨_,rfl,_,⟨by rw [Us.ahead,zX he],S2,rfl⟩,hS⟩
theorem MO:∀{N:List Nd},(au (eZ N)).Nodup→(N.map (·.a)).Nodup
 |[],_=>uP
 |d::N,h=>by
  have e:au (eZ (d::N))=[d.a]++(d.rl.S++(d.rr.S++au (eZ N))):=by
   show au (d.A::d.rl.A::d.rr.A::eZ N)=_;rw [aS,aS,aS];rfl
  rw [e]at h;obtain ⟨_,h2,h3⟩:=yN.1 h;refine yO.2 ⟨fun hm=>?_,MO (yN.1 (yN.1 h2).2.1).2.1⟩;obtain ⟨d',hd,e'⟩:=vE.1 hm;exact h3 d.a YA d.a (by
   refine yX _ (yX _ (ll.2 ⟨d'.A,(bc hd).1,?_⟩));simp [Nd.A,ab,e']) rfl
theorem Lay.ZN{q:Sq}{N:List Nd}{m0 m:World}{M0 X:List Nat}{H F:List az}(l:Lay q N)(hS:Tr m0 M0 X m (H++(eZ N++F))):q.ad.Nodup:=by
 rw [←l.ad];have h:=hS.hold.nd;rw [cq,cq]at h;exact MO (yN.1 (yN.1 h).2.1).1
theorem pJ.Ta{q:Sq}{fr:Bool}{at_:List (aL×Value)}{ord ro:Rw}{N:List Nd}(k:pJ q fr at_ ord ro N)(hn:q.ad.Nodup){i j:Nat}(hi:i<q.us.length)(hj:j<q.us.length)(h:q.a i=q.a j):i=j:=by
 have hl:=k.K7;simp only [Sq.a,uB,xW (show i<q.ad.length by omega),xW (show j<q.ad.length by omega),uD]at h;exact (List.getElem_inj hn).1 h
theorem KR(S:List Nat)(s:Nat)(q:Sq)(r l:Nat)(hr:r<q.us.length)(hl:l<q.us.length)(ht:q.tr=true):bu Tryz.prog 260 [pA s,pA (q.a r),pA (q.a l)] [a7 S s q] (fun v H=>v=.bool (decide (l∈(Fo.path [] q.F r).tail))∧∃S',H=[a7 S' s q]):=by
 intro m0 X hS;obtain ⟨ra,rt,fr,at_,ord,ro,N,k,hS⟩:=bl hS;have qv:=k.l.ZN (H:=[_,_,_,_,_]) hS;refine aP.zA Tryz.func260 ?_;refine go ?_;refine WP.scope ?_;refine go ?_;refine WP.label ?_;refine go ?_;refine WP.loop (X:=Nat) (fun i=>[(0,pA s),(1,pA (q.a i)),(2,pA (q.a l)),(6,.bool false)])
  (fun i m'=>i<q.us.length∧(l∈(Fo.path [] q.F r).tail↔l∈(Fo.path [] q.F i).tail)∧Tr m0 (au [a7 S s q]) X m' (fU q s ra rt fr at_ ord ro N [])) (fun i=>(Fo.path [] q.F i).length) r
  YC ⟨hr,Iff.rfl,hS⟩ ?_
 clear hS;rintro i m ⟨hi,hq,hS⟩;obtain ⟨p,sd,a,b,hA⟩:=Fo.At.dV none false ((k.ok.mem i).2 hi);obtain ⟨d,MN,Mf,_⟩:=k.l.at_ ht _ _ _ _ _ hA;obtain ⟨d',ug,Yj,Wk,Xp⟩:=k.l.get hi;rw [MN]at ug;cases ug;have hN:ab (q.a i) 178 (nC d.u d.p d.rl.v d.rr.v d.sz)∈eZ N++[]:=by rw [←Wk];exact yW _ (bc Yj).1
 obtain ⟨t,e1,e2,e3⟩:=hA.path (up:=[]) k.ok.nd YA;rw [Mf]at hN;rw [e1,List.tail_cons]at hq;refine go ?_;cases p with
 |none=>
  have Yr:t=[]:=by cases t with|nil=>rfl|cons y t=>cases e2
  refine go ?_;refine QN.oT ?_;obtain ⟨S',hS⟩:=a8 k hS;exact QN.aj rfl rfl ⟨_,rfl,_,⟨by rw [zV (fun hh=>by have:=hq.1 hh;simp [Yr]at this)],S',rfl⟩,hS⟩
 |some j=>
  obtain ⟨q',pR,Bb,x8⟩:∃q',some j=some q'∧Fo.path [] q.F q'=t∧q'∈q.F.flat:=by
   rcases e3 with rfl|h
   ·cases e2
   ·exact h
  cases pR;have hj:=(k.ok.mem j).1 x8;obtain ⟨dj,_,ZG,QS,_⟩:=k.l.get hj;obtain ⟨dl,_,UJ,Qj,_⟩:=k.l.get hl;have V7:ab (q.a j) 178 (nC dj.u dj.p dj.rl.v dj.rr.v dj.sz)∈eZ N++[]:=by rw [←QS];exact yW _ (bc ZG).1
  have x5:ab (q.a l) 178 (nC dl.u dl.p dl.rl.v dl.rr.v dl.sz)∈eZ N++[]:=by rw [←Qj];exact yW _ (bc UJ).1
  obtain ⟨t',X0⟩:∃t',t=j::t':=by
   cases t with
   |nil=>cases e2
   |cons y t'=>cases e2;exact ⟨t',rfl⟩
  refine go ?_;refine RL.QR aa hS rfl rfl rfl rfl rfl YB rfl (zO _ (zO _ (zO _ (zO _ (zO _ V7))))) (zO _ (zO _ (zO _ (zO _ (zO _ x5))))) rfl ?_
  by_cases xy:j=l
  ·subst xy;refine RL.eqv (v':=.bool true) YA ?_;refine go ?_;refine QN.oT ?_;obtain ⟨S',hS⟩:=a8 k hS;exact QN.aj rfl rfl ⟨_,rfl,_,⟨by rw [zW (hq.2 (by simp [X0]))],S',rfl⟩,hS⟩
  ·refine RL.eqv (v':=.bool false) (xZ _ (zV fun hh=>xy (k.Ta qv hj hl hh))) ?_;refine go ?_;refine WP.exit ?_;refine QN.bx (QN.round j YC ⟨hj,?_,hS⟩ (by rw [e1,Bb];simp));have e4:l∈t↔l∈t.tail:=by rw [X0];simp [yM xy]
   rw [hq,Bb,e4]
theorem Gq(S:List Nat)(s bx:Nat)(q:Sq)(id:aL):bu Tryz.prog 258 [iV id,pA bx] [ab bx 105 [pA s],a7 S s q] (fun v H=>v=.bool (q.there id)∧∃S',H=[ab bx 105 [pA s],a7 S' s q]):=by
 intro m0 X hS;obtain ⟨ra,rt,fr,at_,ord,ro,N,k,hS⟩:=bl (hS.perm (.swap ..));have hg:=k.get id;have hp:=se id;have close:∀{m:World} {b1:Nat},Tr m0 (au [ab bx 105 [pA s],a7 S s q]) X m (ab b1 30 (iC id)::fU q s ra rt fr at_ ord ro N [ab bx 105 [pA s]])→∃S',Tr m0 (au [ab bx 105 [pA s],a7 S s q]) X m [ab bx 105 [pA s],a7 S' s q]:=fun hS=>by
  obtain ⟨S',hS⟩:=a8 k hS.tail;exact ⟨S',hS.perm (.swap ..)⟩
 have hN:ab bx 105 [pA s]∈eZ N++[ab bx 105 [pA s]]:=by simp
 refine aP.zA Tryz.func258 ?_;refine aa5 ?_;intro b1 m hS
 by_cases h0:id=⟨0,0⟩
 ·rw [zW h0]at hp;refine RH.bU (fi:=[]) (ca:=[]) hS hp rfl J7 rfl rfl rfl rfl rfl JB (an.self _) rfl (fun m hS=>?_);refine go ?_;obtain ⟨S',hS⟩:=close hS;exact QN.aj rfl rfl ⟨_,rfl,_,⟨by simp [Us.there,h0],S',rfl⟩,hS⟩
 ·rw [zV h0]at hp;refine RH.bU (fi:=[]) (ca:=[]) hS hp rfl J7 rfl rfl rfl rfl rfl JB (an.self _) rfl (fun m hS=>?_);refine go ?_;cases hi:q.idx id with
  |none=>
   rw [hi]at hg;refine ad4 ?_;obtain ⟨S',hS⟩:=close hS;exact QN.aj rfl rfl ⟨_,rfl,_,⟨by simp [Us.there,h0,hi],S',rfl⟩,hS⟩
  |some i=>
   rw [hi]at hg;refine ad4 ?_;obtain ⟨S',hS⟩:=close hS;exact QN.aj rfl rfl ⟨_,rfl,_,⟨by simp [Us.there,h0,hi],S',rfl⟩,hS⟩
def Bc:Sq:=⟨⟨[],.nil⟩,[],true⟩
theorem yr:bu Tryz.prog 82 [] [] (fun v H=>∃S s,v=pA s∧H=[a7 S s Bc]):=by
 intro m0 X hS;refine aP.zA Tryz.func82 ?_;refine go ?_;refine RL.makeMap hS iV rfl ?_;clear hS;intro ra m hS;refine ab4 ?_;refine RL.makeMap hS iV rfl ?_;clear hS;intro rt m hS;refine ab4 ?_;refine ac8 ?_;(try clear hS);intro b m hS;refine ab4 ?_;have hS:Tr m0 (au []) X m [ab b 175 [.map (some ra),.slice none 0 0,.slice none 0 0,.map (some rt),.bool true],mapA rt iV ([]:List (aL×Value)),mapA ra iV ([]:List (aL×Value))]:=hS;have hS:=(hS.empty 176 1 none).empty 176 1 none;have cP:Us.Ok Bc.toUs:=⟨by simp [Bc,Fo.flat],by simp [Bc,Fo.flat],by simp [Bc],by simp [Bc],fun i p s a b h=>by cases h⟩;obtain ⟨S,hS⟩:=a8 (s:=b) (ra:=ra) (rt:=rt) (q:=Bc) (fr:=true) (at_:=[]) (ord:=⟨[],.slice none 0 0,[]⟩) (ro:=⟨[],.slice none 0 0,[]⟩) (N:=[]) (F:=[]) ⟨rfl,fun _=>rfl,⟨rfl,rfl,fun _ i p s a b h=>by cases h⟩,cP,yI _,fun _ k i h=>by simp [Bc,Fo.flat]at h⟩
  (hS.perm ((xI (l₁:=[_,_]) (l₂:=[_,_,_])).trans (.cons _ (.swap ..))))
 exact QN.aj rfl rfl ⟨_,rfl,_,⟨S,b,rfl,rfl⟩,hS⟩
theorem GO:pQ Tryz.prog 176 dS EH:=VE (te:=178) (Tryz.underlying176) rfl J8
def mh(ps:List (Nat×Nat)):List (Option Nat×Value):=ps.map fun p=>(some p.1,pA p.2)
theorem CR(ps:List (Nat×Nat))(k:Option Nat):∃o:Option Nat,(bj (mh ps) k).getD (.pointer none)=dS o:=by
 induction ps with
 |nil=>exact ⟨none,rfl⟩
 |cons p ps ih=>
  by_cases h:some p.1=k
  ·exact ⟨some p.2,by simp [mh,bj,h,dS,pA]⟩
  ·obtain ⟨o,ho⟩:=ih;exact ⟨o,by rw [←ho];simp [mh,bj,h]⟩
theorem CM(L:List az)(A:az)(bt rm:Nat)(ps:List (Nat×Nat))(r:Rw)(hn:r.xs.length≤1000000)(hA:A∈L)(hM:∀m M,A.P m M→iL m rm dS (mh ps))(hb:ab bt 214 [.map (some rm)]∈L)(hr:r.A∈L)(hx:∀x∈r.xs,∃t cs,ab x t cs∈L)(hp:∀p∈ps,∃t cs,ab p.1 t cs∈L):
  bu Tryz.prog 139 [r.v,pA bt] L (fun v H=>(∃A n c,v=.slice A n c)∧H=L):=by
 intro m0 X hS;obtain ⟨M0,bR⟩:=zP (au L);rw [←bR]at hS ⊢;obtain ⟨Ar,c,hv,hc⟩:=Rw.shape hS hr;have hS:=hS.empty 176 1 none;have hN:=hb;refine aP.zA Tryz.func139 ?_;refine go ?_;rw [hv];refine go ?_;refine (WP.loop (X:=Nat×List Nat×Value×List Value) (fun z=>[(7,.slice Ar r.xs.length c),(1,pA bt),(4,z.2.2.1),(8,.int .i64 r.xs.length),(9,.int .i64 z.1)])
  (fun z m'=>z.1≤r.xs.length∧z.2.2.2.length=z.1∧Tr m0 M0 X m' (aF z.2.1 176 1 z.2.2.1 z.1 z.2.2.2::L)) (fun z=>r.xs.length-z.1) (0,[],.slice none 0 0,[])
  YC ⟨yI _,rfl,hS⟩ ?_)
 clear hS hN;rintro ⟨i,S,v,xs⟩ m1 ⟨hi,zy,hS⟩;dsimp only at hi zy hS ⊢;have hN:=hb;refine go ?_;rcases tL hi with mN|mN
 ·have hd:decide ((i:Int)<(r.xs.length:Int))=false:=zV J9;rw [hd];refine go ?_;refine WP.exit ?_;refine YF ?_;refine go ?_;obtain ⟨A',c',iI,_⟩:=Ev.Own.shape (show Ev.Own m1 S 176 1 v i xs from hS.mem (A:=aF S 176 1 v i xs) (zS ..));exact QN.aj rfl rfl ⟨_,rfl,_,⟨⟨A',i,c',iI⟩,rfl⟩,hS.tail⟩
 ·have hd:decide ((i:Int)<(r.xs.length:Int))=true:=zW J9;rw [hd];have iQ:aF r.S 176 1 r.v r.xs.length (r.xs.map pA)∈aF S 176 1 v i xs::L:=zO _ hr;obtain ⟨g,c',iI,_,_,_⟩:=hS.dG iQ J9;have fQ:=Rw.sl hS (r:=r) (zO _ hr);rw [hv]at iI fQ;cases iI;obtain ⟨x,Mh⟩:=zQ mN;have sN:(r.xs.map pA)[i*1]?=some (pA x):=by rw [uO,xM,Mh];rfl
  refine go ?_;refine RL.GX aa fQ sN rfl rfl rfl rfl rfl rfl ?_;refine go ?_;obtain ⟨o,ho⟩:=CR ps (some x);have hl:td EH (some x) (mh ps) m1:=fun w hs=>by
   obtain ⟨t,cs,h1⟩:=hx x (xU Mh);refine ⟨EH.fc (hS.mem (zO _ h1)) w hs,fun p Bb=>?_⟩;obtain ⟨y,hy,rfl⟩:=vE.1 Bb;obtain ⟨t,cs,h1⟩:=hp y hy;exact EH.fc (hS.mem (zO _ h1)) w hs
  refine RL.xh (v:=dS o) (k:=some x) (ok:=false) aa GO rfl rfl rfl rfl rfl rfl (hM _ _ (hS.mem (zO _ hA))) hl ?_ rfl ?_
  ·exact ho
  refine go ?_;refine RL.dh aa hS [.tmp 16] [dS o] rfl rfl rfl rfl rfl rfl rfl rfl rfl rfl .head JO JO (wG (show i+1≤1000000 by omega) J8) (by show(i+1)*8≤_;omega) ?_;clear hS fQ;intro b v' m S' hS;refine ab4 ?_;refine QN.round (i+1,S',v',xs++[dS o]) (Sub.C1 rfl (Sub.C1 rfl (Sub.C1 rfl (Sub.C1 rfl (Sub.C1 ?_ Sub.nil))))) ⟨J9,by simp [zy],hS⟩ J0;show some (Value.int .i64 (IntKind.i64.wrap ((i:Int)+1)))=some (.int .i64 ((i+1:Nat):Int));rw [ag _ J9 J9];simp
def Ch:Nat→Nat→Fo
 |_,0=>.nil
 |k,n+1=>.cons k .nil .nil (Ch (k+1) n)
theorem fz:∀n k,(Ch k n).flat=List.range' k n
 |0,_=>rfl
 |n+1,k=>by simp [Ch,Fo.flat,fz n,List.range'_succ]
theorem Dc:∀n k {i:Nat} {p0:Option Nat} {sd:Bool} {p s a b},Fo.At (Ch k n) p0 sd i p s a b→a=.nil
 |0,_,_,_,_,_,_,_,_,h=>by cases h
 |n+1,k,_,_,_,_,_,_,_,h=>by
  rcases h with⟨_,_,_,rfl,_⟩|h|h|h
  ·rfl
  ·exact h.elim
  ·exact h.elim
  ·exact Dc n (k+1) h
def mC(us:List Un)(ad:List Nat):Sq:=⟨⟨us,Ch 0 us.length⟩,ad,false⟩
theorem Er(us:List Un)(ad:List Nat):(mC us ad).ax=us:=by
 apply uQ;intro i;simp only [mC,Us.ax,fz,xM]
 by_cases h:i<us.length
 ·simp [h,Us.u]
 ·rw [tK J5,tK J9];rfl
theorem Hz{us:List Un}{ad:List Nat}(h1:(us.map (·.id)).Nodup)(h2:∀u∈us,u.id.right=true):(mC us ad).Ok where
 nd:=by simp only [mC,fz];exact List.nodup_range'
 mem:=fun i=>by simp [mC,fz,List.mem_range']
 ids:=h1
 right:=h2
 Qo:=fun i p s a b h=>by
  have:=Dc _ _ h;subst this;exact .nil
structure Nf where
 a:Nat
 u:Un
 p:Option Nat
 l:Value
 r:Value
 sz:Nat
def Nf.A(d:Nf):az:=ab d.a 178 (nC d.u d.p d.l d.r d.sz)
structure Fe(q:Sq)(fr:Bool)(at_:List (aL×Value))(ord:Rw)(N:List Nf):Prop where
 o:ord.xs=q.F.flat.map q.a
 ad:N.map (·.a)=q.ad
 us:N.map (·.u)=q.us
 ok:q.Ok
 ep:q.us.length≤1000000
 f:fr=true→Qx q at_
abbrev Dg(q:Sq)(s ra rt:Nat)(fr:Bool)(at_:List (aL×Value))(ord:Rw)(rv:Value)(N:List Nf)(F:List az):List az:=ab s 175 [.map (some ra),ord.v,rv,.map (some rt),.bool fr]::mapA ra iV q.fq::mapA rt iV at_::ord.A::(N.map Nf.A++F)
def Uz(s:Nat)(q:Sq)(L:List az):Prop:=∃ra rt fr at_ ord rv N,L=Dg q s ra rt fr at_ ord rv N []∧Fe q fr at_ ord N
abbrev gS(S:List Nat)(s:Nat)(q:Sq):az:=vz S (Uz s q)
theorem vi{m0 m:World}{M0 X:List Nat}{F:List az}{S:List Nat}{s:Nat}{q:Sq}(h:Tr m0 M0 X m (gS S s q::F)):∃ra rt fr at_ ord rv N,Fe q fr at_ ord N∧Tr m0 M0 X m (Dg q s ra rt fr at_ ord rv N F):=by
 obtain ⟨L,⟨ra,rt,fr,at_,ord,rv,N,rfl,k⟩,hS⟩:=h.open;simp only [Dg,yB,vI]at hS;exact ⟨ra,rt,fr,at_,ord,rv,N,k,hS⟩
theorem kI{m0 m:World}{M0 X:List Nat}{F:List az}{s ra rt:Nat}{q:Sq}{fr:Bool}{at_:List (aL×Value)}{ord:Rw}{rv:Value}{N:List Nf}(k:Fe q fr at_ ord N)
  (h:Tr m0 M0 X m (Dg q s ra rt fr at_ ord rv N F)):∃S,Tr m0 M0 X m (gS S s q::F):=
 ⟨_,Tr.close (L:=Dg q s ra rt fr at_ ord rv N []) (by simpa only [Dg,yB,vI]using h) ⟨ra,rt,fr,at_,ord,rv,N,rfl,k⟩⟩
section
variable{q:Sq} {fr:Bool} {at_:List (aL×Value)} {ord:Rw} {N:List Nf}
theorem Fe.K7(h:Fe q fr at_ ord N):q.ad.length=q.us.length:=by rw [←h.ad,←h.us,uF,uF]
theorem Fe.get(h:Fe q fr at_ ord N)(id:aL):(bj q.fq id).getD (.pointer none)=pO ((q.idx id).map q.a):=jE id q.us q.ad h.K7.symm
theorem Fe.node(h:Fe q fr at_ ord N){i:Nat}(hi:i<q.us.length):∃d,d∈N∧d.a=q.a i∧d.u=q.u i:=by
 have hl:N.length=q.us.length:=by rw [←h.us,uF]
 have aM:i<N.length:=by omega
 refine ⟨N[i],vF aM,?_,?_⟩
 ·simp [Sq.a,←h.ad,xW aM]
 ·simp [Us.u,←h.us,xW aM]
theorem Fe.view(k:Fe q fr at_ ord N){bx s:Nat}{c0 c2 c3 c4:Value}{H:List az}(h1:ab bx 105 [pA s]∈H)(h2:ab s 175 [c0,ord.v,c2,c3,c4]∈H)(h3:ord.A∈H)(h4:∀A∈N.map Nf.A,A∈H):GC q bx s c0 c2 c3 c4 ord H where
 bx:=h1
 s:=h2
 o:=h3
 ox:=k.o
 n:=fun i hi=>by
  obtain ⟨d,h6,h7,h8⟩:=k.node ((k.ok.mem i).1 hi);exact ⟨d.p,d.l,d.r,d.sz,h4 _ (h7▸h8▸vE.2 ⟨d,h6,rfl⟩)⟩
end
theorem O5(S:List Nat)(s:Nat)(q:Sq):bu Tryz.prog 87 [pA s] [gS S s q] (fun v H=>v=.int .i64 q.us.length∧∃S',H=[gS S' s q]):=by
 intro m0 X hS;obtain ⟨ra,rt,fr,at_,ord,ro,N,k,hS⟩:=vi hS;have hn:ord.xs.length=q.us.length:=by rw [k.o,uF,k.ok.fe]
 obtain ⟨A,c,hv,hc⟩:=Rw.shape hS (r:=ord) YA;refine aP.zA Tryz.func87 ?_;refine go ?_;obtain ⟨S',hS⟩:=kI k hS;rw [hv];refine go ?_;exact QN.aj rfl rfl ⟨_,rfl,[gS S' s q],⟨by rw [hn],_,rfl⟩,hS⟩
theorem Kh(S:List Nat)(s:Nat)(q:Sq)(id:aL):bu Tryz.prog 88 [pA s,iV id] [gS S s q] (fun v H=>v=.int .i64 (q.find id)∧∃S',H=[gS S' s q]):=by
 intro m0 X hS;obtain ⟨ra,rt,fr,at_,ord,ro,N,k,hS⟩:=vi hS;refine aP.zB Tryz.func88 ?_;refine aa5 ?_;intro b1 m hS;refine ag1 ?_;intro b2 m hS;have hg:=k.get id;cases hi:q.idx id with
 |none=>
  rw [hi]at hg;refine ad4 ?_;have he:q.find id=-1:=by simp [Us.find,hi]
  obtain ⟨S',iG⟩:=kI k hS.tail.tail;exact QN.ng (.inl rfl) (bY.tmp rfl rfl) ⟨_,rfl,_,⟨he▸rfl,S',rfl⟩,iG⟩
 |some i=>
  rw [hi]at hg;have aM:=(Us.ba hi).1;have he:q.find id=q.place i:=by simp [Us.find,hi]
  refine ad4 ?_;cases fr with
  |true=>
   have pg:=k.f rfl _ _ (k.ok.cF aM);rw [(Us.ba hi).2]at pg;refine go ?_;refine RH.lookup (v:=.int .i64 (q.place i)) aa ai.calm ko rfl J7 rfl rfl rfl rfl rfl rfl rfl JQ (by rw [pg];rfl) rfl ?_;refine go ?_;obtain ⟨S',iG⟩:=kI k hS.tail.tail;exact QN.ng (.inl rfl) (bY.tmp rfl rfl) ⟨_,rfl,_,⟨he▸rfl,S',rfl⟩,iG⟩
  |false=>
   refine go ?_;refine zF (C9 s) ?_
   (try clear hS);rintro _ m3 _ ⟨bx,rfl,rfl⟩ hS;simp only [zC,zN]at hS;refine aa1 ?_
   refine go ?_;have VP:q.F.flat.length≤1000000:=by rw [k.ok.fe];exact k.ep
   refine WP.jt (β:=Nat) (fun x:Nat×Un=>[.int .i64 x.1,uV x.2]) rfl (wk q bx s (.map (some ra)) ro (.map (some rt)) (.bool false) ord VP) ⟨_,Tryz.func90,J7,J7⟩ hS
    (fun pre H=>∃at',H=ab bx 105 [pA s]::ab b2 30 (iC id)::ab b1 105 [pA s]::Dg q s ra rt false at' ord ro N []∧
     ∀k j:Nat,k<pre.length→q.F.flat[k]?=some j→bj at' (q.u j).id=some (.int .i64 k)) (fun _ _ _=>False) ⟨at_,rfl,fun _ _ h=>(by simp at h)⟩ ?_ _ (fun _=>rfl) (fun _=>rfl)
    (fun x b=>[(2,pA b1),(3,.pointer (some ⟨b2,0,none⟩)),(4,.int .i64 0),(5,.int .i64 x.1),(6,pA b)]) (fun x b G=>G=[ab b 101 (uC x.2)]) ?_ ?_ ?_ ?_
   ·rintro pre H C ⟨at',rfl,_⟩;exact k.view YA YA YA (fun A hA=>by simp [hA])
   ·intro l C pre x G m1 H1 _ _ hS;refine go ?_;refine ac3 ?_;(try clear hS);intro b m hS;refine ab4 ?_;refine aa2 ?_;intro m hS;refine go ?_;exact QN.qE b _ YC hS rfl
   ·rintro l C pre x b _ G m2 _ ⟨at',rfl,ha⟩ ⟨sN,mH⟩ rfl hS;have hS:=hS.mK;simp only [zC,zN]at hS;obtain ⟨i,CY,VJ⟩:∃i,q.F.flat[pre.length]?=some i∧q.u i=x.2:=by simpa [Us.ax]using mH
    refine go ?_;refine RH.fD (k:=x.2.id) (v:=.int .i64 x.1) aa hS ko rfl J7 rfl rfl rfl rfl rfl rfl rfl JQ JN rfl J7 ?_;intro m hS;refine QN.calm ?_;refine YJ ?_;refine QN.fY (hS.tail.perm (xI (l₁:=C::ab bx 105 [pA s]::ab b2 30 (iC id)::ab b1 105 [pA s]::Dg q s ra rt false (cI at' x.2.id (.int .i64 x.1)) ord ro N []))) ⟨cI at' x.2.id (.int .i64 x.1),rfl,?_⟩
    ·rw [zY,←VJ,sN];exact s4 k.ok CY ha
   ·rintro B r xs m' _ hl ⟨at',rfl,ha⟩ hS;refine aj0 ?_;intro m hS;have pg:=ha _ _ (by rw [hl,k.ok.sT];exact k.ok.lk aM) (k.ok.cF aM);rw [(Us.ba hi).2]at pg;refine go ?_;refine RH.lookup (v:=.int .i64 (q.place i)) aa ai.calm ko rfl J7 rfl rfl rfl rfl rfl rfl rfl JQ (by rw [pg];rfl) rfl ?_;refine go ?_;refine QN.jq (r:=.int .i64 (q.place i)) (.inl rfl) hS (fun m' hS=>?_);obtain ⟨S',iG⟩:=kI (fr:=true) (at_:=at') ⟨k.o,k.ad,k.us,k.ok,k.ep,fun _ a j hj=>ha a j (by have:=(yV.1 hj).1;rw [k.ok.fe]at this;rw [hl,k.ok.sT];exact this) hj⟩ hS.tail.tail.tail;exact ⟨bY.tmp rfl rfl,⟨_,rfl,_,⟨he▸rfl,S',rfl⟩,iG⟩⟩
   ·exact fun _ _ _ _ _ _ h _=>h.elim
theorem Ha{xs ys zs:List Value}{n i m:Nat}(hi:i≤n)(hx:xs.length=n*22)(hy:ys.length=m*22):
  ((((xs.take (i*22)++zs).take (i*22)++ys++(xs.take (i*22)++zs).drop (i*22+ys.length)).take ((i+m)*22)++xs.drop (i*22)++(((xs.take (i*22)++zs).take (i*22)++ys++(xs.take (i*22)++zs).drop (i*22+ys.length))).drop ((i+m)*22+(xs.drop (i*22)).length)).take ((n+m)*22))=xs.take (i*22)++ys++xs.drop (i*22):=by
 have h1:(xs.take (i*22)).length=i*22:=by rw [yA,hx];omega
 have h2:(xs.take (i*22)++zs).take (i*22)=xs.take (i*22):=by rw [tE h1]
 rw [h2];have h3:(xs.take (i*22)++ys++(xs.take (i*22)++zs).drop (i*22+ys.length)).take ((i+m)*22)=xs.take (i*22)++ys:=by
  rw [tE];rw [zY,h1,hy];omega
 rw [h3,tE];simp only [zY,h1,hy,zZ,hx];omega
theorem D4{xs ys cur:List Value}{n i m:Nat}(hi:i≤n)(hx:cur.take (n*22)=xs)(hl:xs.length=n*22)(hy:ys.length=m*22)(hc:cur.length≥(n+m)*22):
  ((cur.take ((i+m)*22)++xs.drop (i*22)++cur.drop ((i+m)*22+(xs.drop (i*22)).length)).take (i*22)++ys++(cur.take ((i+m)*22)++xs.drop (i*22)++cur.drop ((i+m)*22+(xs.drop (i*22)).length)).drop (i*22+ys.length)).take ((n+m)*22)=xs.take (i*22)++ys++xs.drop (i*22):=by
 have h1:(cur.take ((i+m)*22)).length=(i+m)*22:=by rw [yA];omega
 have h2:(cur.take ((i+m)*22)++xs.drop (i*22)++cur.drop ((i+m)*22+(xs.drop (i*22)).length)).take (i*22)=xs.take (i*22):=by
  rw [wM,yE (by rw [h1];omega),tF,←hx,tF]
  congr 1;omega
 have h3:(cur.take ((i+m)*22)++xs.drop (i*22)++cur.drop ((i+m)*22+(xs.drop (i*22)).length)).drop (i*22+ys.length)=xs.drop (i*22)++cur.drop ((i+m)*22+(xs.drop (i*22)).length):=by
  rw [wM,List.drop_left'];rw [h1,hy];omega
 rw [h2,h3,←wM,tE];simp only [zY,yA,zZ,hl,hy];omega
set_option maxRecDepth 20000 in
theorem Ph(v u:Value)(S S2:List Nat)(n i m:Nat)(xs ys:List Value)(hi:i≤n)(hm:0<m)(hb:n+m≤1000000)(h1:∀z∈xs,z.oneCell'=true)(h2:∀z∈ys,z.oneCell'=true):
  bu Tryz.prog 210 [v,.int .i64 i,u] [aF S 55 22 v n xs,aF S2 55 22 u m ys] (fun r H=>∃S',H=[aF S' 55 22 r (n+m) (xs.take (i*22)++ys++xs.drop (i*22))]):=by
 intro m0 X hS;have hx:xs.length=n*22:=(hS.mem (A:=aF S 55 22 v n xs) YA).1;have hy:ys.length=m*22:=(hS.mem (A:=aF S2 55 22 u m ys) YA).1;obtain ⟨A,c,rfl,ya⟩:=hS.shape;obtain ⟨B,c2,rfl,TH⟩:=Tr.shape (hS.perm (List.Perm.swap ..));refine aP.zA Tryz.func210 ?_;refine go ?_;refine RL.sliceFrom aa (l:=i) rfl rfl rfl rfl rfl hi rfl ?_;refine go ?_;refine WP.cond rfl (fun hc=>?_) (fun _=>?_)
 ·exact absurd hc J6
 refine go ?_;refine WP.cond rfl (fun hc=>?_) (fun hc=>?_)
 ·have hc:i=n:=Int.ofNat.inj (eq_of_beq hc);subst hc;refine go ?_;have iG:=(hS.perm (List.Perm.swap ..));have fQ:=hS.aW (t:=55) (sz:=22) (v:=.slice B m c2) (nn:=m) (xs:=ys) (S:=S2) YA;refine RL.dx aa hS (k:=m) ys rfl rfl rfl rfl rfl sY.head (Src.cS fQ) hy h2 Jy (wG (wP _ hb) J8) ?_;intro v' m' S' hS;refine ⟨_,rfl,?_⟩;refine go ?_;refine QN.aj rfl rfl ⟨_,rfl,[aF S' 55 22 v' (i+m) (xs++ys)],⟨S',by rw [←hx,wF,List.drop_length,vI]⟩,?_⟩;exact Tr.drop (F:=[aF S2 55 22 (.slice B m c2) m ys]) hS
 have mN:i<n:=by
  rcases xA i n with h|h
  ·exact h
  ·have:i=n:=by omega
   subst this;simp at hc
 obtain ⟨g,cap,cur,hv,rfl,Vz,kl,jW,CW,hS⟩:=hS.zj J9;cases hv;have hS:=hS.perm (List.Perm.swap ..);obtain ⟨g2,cap2,cur2,hv,rfl,WG,Vg,UY,Na,hS⟩:=hS.zj hm;cases hv;have hS:=hS.perm (List.Perm.swap ..);have dP:g2≠g:=fun hh=>by
  have:=hS.hold.nd;subst hh;simp [au,ab]at this
 have bN:∀j z,xs[j]?=some z→cur[j]?=some z:=fun j z hj=>by
  rw [←CW,xV]at hj
  split at hj
  ·exact hj
  ·cases hj
 have rU:∀j z,ys[j]?=some z→cur2[j]?=some z:=fun j z hj=>by
  rw [←Na,xV]at hj
  split at hj
  ·exact hj
  ·cases hj
 refine go ?_;have hw:IntKind.i64.wrap ((n:Int)+(m:Int))=((n+m:Nat):Int):=by rw [ag _ J9 J9];omega
 have jb:IntKind.i64.wrap ((i:Int)+(m:Int))=((i+m:Nat):Int):=by rw [ag _ J9 J9];omega
 have Xc:¬c=i:=by omega
 have Uh:i+m<n+m:=by omega
 have NP:(xs.drop (i*22)).length=(n-i)*22:=by rw [zZ,hx];omega
 refine WP.cond rfl (fun hc=>?_) (fun hc=>?_)
 ·have hc:c<n+m:=by rw [hw]at hc;have:=xS hc;omega
  refine go ?_;refine RL.sliceTo aa (l:=i) rfl rfl rfl rfl rfl J9 rfl ?_;refine go ?_;have RJ:IntKind.i64.wrap (IntKind.i64.wrap ((n:Int)+(m:Int))-(i:Int))=((n+m-i:Nat):Int):=by rw [hw,ag _ J9 J9];omega
  refine RL.pn aa hS (k:=n+m-i) rfl rfl (xs.take (i*22)) rfl rfl rfl RJ J9 J9 Jy (wG (wP _ J9) (show 1000000*_≤_ by decide)) (by rw [yA,hx];exact zR (wP _ hi)) ?_ ?_
  ·intro j z hj;rw [av,zU];refine bw.cell (hS.mem (A:=ab g 55 cur) YA) j (bN j z ?_);rw [xV]at hj
   split at hj
   ·exact hj
   ·cases hj
  intro b cap' zs m' iG hle N3 Gk;have Vy:=iG;have qv:b≠g∧b≠g2:=by
   have:=iG.hold.nd;simp [au,ab]at this;exact this.1
  clear hS;have hS:=iG;rw [show i+(n+m-i)=n+m by omega]at hle;refine ⟨_,rfl,?_⟩;rw [show i+(n+m-i)=n+m by omega];have N9:¬cap'=i:=by omega
  refine ah5 ?_;refine RL.eqv (v':=.slice (some ⟨b,i*22,none⟩) (n+m-i) (cap'-i)) (by rw [zX N9];simp [av]<;>rfl) ?_;refine go ?_;have Q2:(n+m)*22≤cap'*22:=wP _ hle;refine RL.pr aa hS ys rfl rfl rfl rfl (tb:=55) (cs:=xs.take (i*22)++zs) JQ JN JL ?_ (by rw [hy,Gk];show _≤cap'*22;omega) h2 rfl ?_
  ·intro j z hj;rw [av,zU];exact bw.cell (hS.mem (A:=ab g2 55 cur2) YA) j (rU j z hj)
  clear hS Vy iG;intro m1 hS;refine go ?_;refine RH.sliceFrom aa ai.calm 4 (l:=i+m) rfl J7 rfl rfl rfl rfl jb J9 rfl ?_;refine RH.eqv (v':=.slice (some ⟨b,(i+m)*22,none⟩) (n+m-(i+m)) (cap'-(i+m))) JW ?_;refine go ?_;refine RH.sliceFrom aa ai.calm 7 (l:=i) rfl J7 rfl rfl rfl rfl rfl J9 rfl ?_;refine RH.eqv (v':=.slice (some ⟨g,i*22,none⟩) (n-i) (c-i)) Je ?_;refine RH.only 8 rfl J7 (fun _=>?_);have pM:(i+m)*22+(xs.drop (i*22)).length≤((xs.take (i*22)++zs).take (i*22)++ys++(xs.take (i*22)++zs).drop (i*22+ys.length)).length:=by
   simp only [zY,yA,zZ,hy,hx]at Gk ⊢;have h9:min (i*22) (n*22)+zs.length=cap'*22:=Gk;omega
  have LX:Nat.min (n-i) (n+m-(i+m))=n-i:=zR J9;refine RL.pr aa hS (xs.drop (i*22)) rfl rfl rfl rfl (tb:=55) JQ JN (by rw [LX,NP]) ?_ pM (fun z hz=>h1 z (tD hz)) rfl ?_
  ·intro j z hj;rw [av];refine bw.cell (hS.mem (A:=ab g 55 cur) YA) _ (bN _ z ?_)
   rwa [vA]at hj
  intro m2 hS;refine ab9 ?_;refine YJ ?_;refine go ?_;have kd:(((xs.take (i*22)++zs).take (i*22)++ys++(xs.take (i*22)++zs).drop (i*22+ys.length)).take ((i+m)*22)++xs.drop (i*22)++(((xs.take (i*22)++zs).take (i*22)++ys++(xs.take (i*22)++zs).drop (i*22+ys.length))).drop ((i+m)*22+(xs.drop (i*22)).length)).length=cap'*22:=by
   simp only [zY,yA,zZ,hy,hx]at Gk ⊢;have h9:min (i*22) (n*22)+zs.length=cap'*22:=Gk;omega
  have hS:=hS.rF (nn:=n+m) (sz:=22) hle N3 kd;rw [Ha hi hx hy]at hS;exact QN.aj rfl rfl ⟨_,rfl,_,⟨[b],rfl⟩,Tr.drop (H:=[_]) hS⟩
 ·have hc:n+m≤c:=by rw [hw]at hc;have:=vX hc;omega
  refine go ?_;refine RL.sliceTo aa (l:=n+m) rfl rfl rfl rfl hw J9 rfl ?_;refine go ?_;refine RL.sliceFrom aa (l:=i+m) rfl rfl rfl rfl jb J9 rfl ?_;refine RL.eqv (v':=.slice (some ⟨g,(i+m)*22,none⟩) (n+m-(i+m)) (c-(i+m))) JW ?_;have Zp:0<c*22:=Nat.mul_pos J9 J8;refine RL.overlaps aa hS (fn:=Tryz.f231) J7 J7 J7 J7 (tS:=43) (tR:=4) J7 rfl rfl rfl rfl (h1:=JQ) (h2:=JQ) dP J9 rfl ?_;refine go ?_;refine RH.sliceFrom aa ai.calm 4 (l:=i+m) rfl J7 rfl rfl rfl rfl jb J9 rfl ?_;refine RH.eqv (v':=.slice (some ⟨g,(i+m)*22,none⟩) (n+m-(i+m)) (c-(i+m))) JW ?_;refine go ?_;refine RH.sliceFrom aa ai.calm 7 (l:=i) rfl J7 rfl rfl rfl rfl rfl J9 rfl ?_;refine RH.eqv (v':=.slice (some ⟨g,i*22,none⟩) (n+m-i) (c-i)) Je ?_;refine RH.only 8 rfl J7 (fun _=>?_);have NC:cur.length≥(n+m)*22:=by rw [jW];exact wP _ hc
  have LX:Nat.min (n+m-i) (n+m-(i+m))=n-i:=Nat.min_eq_right J9|>.trans J9;refine RL.pr aa hS (xs.drop (i*22)) rfl rfl rfl rfl (tb:=55) JQ JN (by rw [LX,NP]) ?_ (by rw [NP];omega) (fun z hz=>h1 z (tD hz)) rfl ?_
  ·intro j z hj;rw [av];refine bw.cell (hS.mem (A:=ab g 55 cur) YA) _ (bN _ z ?_)
   rwa [vA]at hj
  intro m2 hS;refine ab9 ?_;refine YJ ?_;refine ah5 ?_;refine RL.eqv (v':=.slice (some ⟨g,i*22,none⟩) (n+m-i) (c-i)) Je ?_;refine go ?_;have sI:(cur.take ((i+m)*22)++xs.drop (i*22)++cur.drop ((i+m)*22+(xs.drop (i*22)).length)).length=c*22:=by
   simp only [zY,yA,zZ,hx];omega
  refine RL.pr aa hS ys rfl rfl rfl rfl (tb:=55) JQ JN JL ?_ (by rw [hy,sI];omega) h2 rfl ?_
  ·intro j z hj;rw [av,zU];exact bw.cell (hS.mem (A:=ab g2 55 cur2) YA) j (rU j z hj)
  intro m3 hS;refine go ?_;have hS:=hS.rF (nn:=n+m) (sz:=22) hc kl (by
   simp only [zY,yA,zZ,hy]at sI ⊢;omega)
  rw [D4 hi CW hx hy NC]at hS;exact QN.aj rfl rfl ⟨_,rfl,_,⟨[g],rfl⟩,Tr.drop (H:=[_]) hS⟩
end Go.Proofs.YtgpgladbdoimdaaGreatDoor
