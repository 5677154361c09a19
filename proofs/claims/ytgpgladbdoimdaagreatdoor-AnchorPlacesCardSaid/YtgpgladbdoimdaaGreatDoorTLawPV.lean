/- What is needed beyond the texts below. -/
import Derived.Test.YtgpgladbdoimdaaGreatDoorMLawMV50
import Derived.ProofKit
import Derived.SizedLaws
namespace Go.Ev
section
open Go.RowKit Go.WideShapes Go.ChangeShapes
variable{H:Type} {enc:TypeId×Value→H} {P:Program}
theorem open_stru{W:World}{sp:Nat→Bool}{hd:Bool}{base fuel:Nat}{t:TypeId}{cs:List Value}{x:DataW H×List MemPlace}{fs:List (TypeId×Nat×Nat)}(hk:MP P t (.stru fs))(h:DataW.trod enc P W base sp hd fuel t cs=some x):
  ∃n ds,x.1=.agg ds∧cs.length=P.cellsOf t∧∀(i ty off sz:Nat),fs[i]?=some (ty,off,sz)→∃y,DataW.trod enc P W base sp hd n ty ((cs.drop off).take sz)=some y∧ds[i]?=some y.1:=by
 obtain ⟨F,hF,rfl⟩:=hk;obtain ⟨xs,n,_,rfl,hl,qa,mD⟩:=DataW.trod_struct hF h;refine ⟨n,_,rfl,hl,fun i ty off sz hi=>?_⟩;rw [List.getElem?_map]at hi;cases hf:F.toList[i]?with
 |none=>rw [hf]at hi;cases hi
 |some f=>
  rw [hf]at hi;simp only [Option.map_some,Option.some.injEq,Prod.mk.injEq]at hi;obtain ⟨rfl,rfl,rfl⟩:=hi;have VA:F[i]?=some f:=by simpa using hf
  have aM:i<F.size:=(Array.getElem?_eq_some_iff.1 VA).1;have:=mD i f VA;rw [List.getElem?_eq_getElem (by omega)]at this;exact ⟨_,this,by rw [List.getElem?_map,List.getElem?_eq_getElem (by omega)];rfl⟩
end
end Go.Ev
namespace Go.Proofs.YtgpgladbdoimdaaGreatDoor
open Go.ChangeShapes Go.WideShapes Go.ChangeAt Go.RowKit Go.Ev Go.Ids Go.SeqP
set_option maxRecDepth 20000
set_option maxHeartbeats 1000000
theorem find_rowU{q:Us}(cP:q.Ok)(id:aL):(ka q.ax).find id=q.find id:=by
 have hk:=cP.yk;cases hi:q.idx id with
 |none=>
  have h1:(ka q.ax).idx id=none:=Us.eP.2 fun hh=>by
   obtain ⟨u,hu,e⟩:=List.mem_map.1 hh;obtain ⟨i,hG,rfl⟩:=List.mem_map.1 (show u∈q.F.flat.map q.u from hu);exact Us.eP.1 hi (List.mem_map.2 ⟨_,Us.DO ((cP.mem i).1 hG),e⟩)
  rw [Us.find,Us.find,h1,hi]
 |some i=>
  obtain ⟨h1,h2⟩:=Us.ba hi;have hp:=cP.cF h1;have A0:q.place i<(ka q.ax).us.length:=by show _<q.ax.length;rw [cP.sT];exact cP.lk h1
  have hu:(ka q.ax).u (q.place i)=q.u i:=by
   show q.ax.getD _ _=_;rw [List.getD_eq_getElem?_getD,Us.ax,List.getElem?_map,hp];rfl
  have h3:=hk.kB A0;rw [hu,h2]at h3;have h4:=hk.cF A0;have h5:(ka q.ax).place (q.place i)=q.place i:=by
   have h6:(List.range' 0 q.ax.length)[(ka q.ax).place (q.place i)]?=some (q.place i):=by rw [←fz];exact h4
   obtain ⟨h7,h8⟩:=List.getElem?_eq_some_iff.1 h6;rw [List.getElem_range']at h8;omega
  rw [Us.find,Us.find,h3,hi];simp only [h5]
theorem gapU_P{q:Us}(cP:q.Ok)(a:sF):kP q.ax a=wz q a:=by
 unfold kP wz;rw [find_rowU cP,cP.sT]
theorem place19_r(S:List Nat)(d:Nat)(x:Rx)(ep:x.D.length≤1000000)(a:sF):bu Tryz.prog 16 [pA d,aV a] [cN S d x] (fun r H=>r=.tuple #[.int .i64 (gX x.D x.q.ax a).1,.bool (gX x.D x.q.ax a).2]∧∃S',H=[cN S' d x]):=by
 intro m0 X hS;obtain ⟨M0,bR⟩:∃M0,M0=au [cN S d x]:=⟨_,rfl⟩;rw [←bR]at hS ⊢;obtain ⟨s,mm,v,w,cH,cP,hle,hS⟩:=F4 hS;have AF:w.N.length=x.q.us.length:=by rw [←cH.len,List.length_map]
 have kd:=cP.fe;have BZ:=cP.sT;have Ww:∀k∈x.q.F.flat,k<w.N.length:=fun k hk=>by rw [AF];exact (cP.mem k).1 hk
 have hV:x7 (FY d s mm x v w []) s w.N x.q.F.flat w.l w.m w.o:=⟨(by with_reducible repeat(first|exact zS ..|apply zO)),.inl (by with_reducible repeat(first|exact zS ..|apply zO)),.inl (by with_reducible repeat(first|exact zS ..|apply zO))⟩;have Su:=cP.pZ a.id;have back:∀{m:World},Tr m0 M0 X m (FY d s mm x v w [])→∃S',Tr m0 M0 X m [cN S' d x]:=fun h=>xr cH cP hle h
 have hg0:0≤(wz x.q a).1∧(wz x.q a).1≤x.q.us.length:=by
  unfold wz
  split
  ·simp only;split<;>omega
  ·split
   ·simp only;omega
   ·simp only;split<;>omega
 refine aP.enter ⟨_,Tryz.func16,by kernel_rfl,by kernel_rfl⟩ Tryz.func16 rfl rfl ?_;refine ah ?_
 (try clear hS);intro b3 m hS;refine ⟨_,rfl,?_⟩;refine ah ?_
 refine WP.fk hS rfl (by kernel_rfl) ?_;refine aZ ?_;refine RH.cL (CT _ s w.N w.l w.m w.o x.q hV.cons cH cP hle a) fun m hS=>?_
 obtain ⟨gp,V6⟩:∃gp:Nat,(wz x.q a).1=(gp:Int):=⟨(wz x.q a).1.toNat,by omega⟩;rw [V6];rw [V6]at hg0;have A0:∀b,(wz x.q a).2=b→gX x.D x.q.ax a=if b then((iy x.D x.q.ax gp:Int),true)else(0,false):=fun b h=>by
  rw [gX,gapU_P cP,h,V6];rfl
 cases hg:(wz x.q a).2 with
 |false=>
  refine ah ?_;obtain ⟨S',hS⟩:=back hS.tail;exact QN.dW rfl rfl rfl ⟨_,rfl,_,⟨by rw [A0 _ hg];rfl,_,rfl⟩,hS⟩
 |true=>
  refine ah ?_;refine (WP.loop (X:=Nat) (fun i=>[(0,pA d),(6,.int .i64 gp),(8,.int .i64 (iy x.D x.q.ax i)),(9,.int .i64 i)])
   (fun i m'=>i≤gp∧Tr m0 M0 X m' (ab b3 32 (aC a)::FY d s mm x v w [])) (fun i=>gp-i) 0
   (Sub.C1 rfl (Sub.C1 rfl (Sub.C1 rfl (Sub.C1 rfl Sub.nil)))) ⟨Nat.zero_le _,hS⟩ ?_)
  clear hS;rintro i m ⟨hi,hS⟩;refine ah ?_;rcases Nat.lt_or_ge i gp with aM|fW
  ·rw [decide_eq_true (show(i:Int)<(gp:Int) by omega)];obtain ⟨u,hu⟩:∃u,x.q.ax[i]?=some u:=⟨_,List.getElem?_eq_getElem (by omega)⟩;have pg:=DB cH cP hu;have hw:IntKind.i64.wrap ((i:Int)+1)=((i+1:Nat):Int):=by rw [ag _ (by omega) (by omega)];simp
   have jW:=LH x.D x.q.ax i;refine ah ?_;refine RL.cL (Tl _ s w.N x.q.F.flat w.l w.m w.o hV.cons Ww i) fun m hS=>?_
   rw [pg];refine ah ?_
   (try clear hS);intro b10 m hS;refine ⟨_,rfl,?_⟩;refine ah ?_
   (try clear hS);intro m hS;refine ah ?_
   refine WP.fk hS rfl (by kernel_rfl) ?_;refine aZ ?_;refine RH.cU (Gl v.D x.D (by omega) u.id) fun m hS=>?_
   cases hh:hasB x.D u.id with
   |true=>
    refine ah ?_;rw [hw];refine QN.round (i+1) (Sub.C1 rfl (Sub.C1 rfl (Sub.C1 (by rw [Gx hu,hh];rfl) (Sub.C1 rfl Sub.nil)))) ⟨aM,hS.tail⟩ (by omega)
   |false=>
    refine ah ?_;rw [hw,show IntKind.i64.wrap ((iy x.D x.q.ax i:Int)+1)=((iy x.D x.q.ax (i+1):Nat):Int) by rw [ag _ (by omega) (by omega),Gx hu,hh];simp];exact QN.round (i+1) (Sub.C1 rfl (Sub.C1 rfl (Sub.C1 rfl (Sub.C1 rfl Sub.nil)))) ⟨aM,hS.tail⟩ (by omega)
  ·rw [decide_eq_false (show¬(i:Int)<(gp:Int) by omega)];have:i=gp:=by omega
   subst this;refine ah ?_;obtain ⟨S',hS⟩:=back hS.tail;exact QN.dW rfl rfl rfl ⟨_,rfl,_,⟨by rw [A0 _ hg];rfl,_,rfl⟩,hS⟩
set_option maxHeartbeats 2000000
theorem places_s(wi:Int)(v:Value)(ls:List Nat)(Oa:∀n∈ls,n<4294967296)(a:sF)(wh:Int):bu Tryz.prog 4 [.int .i64 wi,v,aV a,.int .i64 wh] [aw,bW 1 v (ls.flatMap u4)] (fun r H=>r=.bool true∧H=[]):=by
 intro m0 X hS;obtain ⟨M0,bR⟩:∃M0,M0=au [aw,bW 1 v (ls.flatMap u4)]:=⟨_,rfl⟩;rw [←bR]at hS ⊢;obtain ⟨A,c,rfl,_,_,_⟩:=Sl.gY u4 oJ (hS.bE (show bW 1 v (ls.flatMap u4)∈_ from(by with_reducible repeat(first|exact zS ..|apply zO)))) (by decide);refine aP.enter ⟨_,Tryz.func4,by kernel_rfl,by kernel_rfl⟩ Tryz.func4 rfl rfl ?_;refine ah ?_
 (try clear hS);intro b6 m hS;refine ⟨_,rfl,?_⟩;refine ah ?_
 refine RL.cM Hu ?_;clear hS;rintro _ m _ ⟨rfl,rfl⟩ hS;simp only [List.nil_append]at hS;refine ⟨_,rfl,?_⟩;refine ah ?_;rcases Nat.lt_or_ge 50 ls.length with aM|hle
 ·rw [decide_eq_true (show(ls.length:Int)>50 by omega)];refine ah ?_;exact QN.aj rfl rfl ⟨_,rfl,_,⟨rfl,rfl⟩,hS.drop (H:=[])⟩
 ·rw [decide_eq_false (show¬(ls.length:Int)>50 by omega)];refine ah ?_;refine RL.cM (L7 wi (.slice A ls.length c) ls hle Oa) ?_;clear hS;rintro _ m _ ⟨d,e,y,S,x,l,rfl,hr,pY,hy,hx,rfl⟩ hS;obtain ⟨eD,eq_,P1,Ob,Fs⟩:=EJ hy hx;have VT:=hy.i.q;have UP:=hy.i.tr;have hLx:=hx.i.s.L;clear hr hy hx;simp only [bC,zC,zN]at hS;have hS:=(hS.aH (Pre:=ab b6 32 (aC a)::aw::bC d {y with S5:=y.S5} [cN S e x]) (by repeat(first|with_reducible exact bk.nil|apply bk.ro (by repeat(first|exact zS ..|with_reducible apply zO)) (by rfl)|apply bk.own (by repeat(first|exact sY.head|with_reducible apply sY.tail))))).drop;refine ⟨_,rfl,?_⟩;refine ah ?_;refine (WP.eo (X:=Nat×sF×List Nat×List Nat) (fun z=>[(3,.int .i64 wh),(6,pA b6),(9,pA d),(10,pA e),(11,.int .i64 z.1)])
   (fun z m'=>z.1≤3∧Tr m0 M0 X m' (ab b6 32 (aC z.2.1)::aw::bC d {y with S5:=z.2.2.1} [cN z.2.2.2 e x]))
   (fun z m'=>Tr m0 M0 X m' (ab b6 32 (aC z.2.1)::aw::bC d {y with S5:=z.2.2.1} [cN z.2.2.2 e x])) (fun z=>3-z.1) (0,a,y.S5,S) 0
   (by repeat(first|exact Sub.nil|refine Sub.C1 rfl ?_)) ⟨Nat.zero_le _,hS⟩ ?_ ?_)
  ·clear hS;rintro ⟨k,a,S5,S⟩ m ⟨hk,hS⟩;dsimp only at hk hS ⊢;refine ah ?_;rcases Nat.lt_or_ge k 3 with aM|fW
   ·rw [decide_eq_true (show(k:Int)<3 by omega)];refine ah ?_;refine RL.cM (um d {y with S5:=S5} a VT (by show y.q.us.length≤_;omega) UP (by show y.D.length<_;omega)) ?_;clear hS;rintro _ m _ ⟨rfl,S5,rfl⟩ hS;simp only [bC,zC,zN]at hS;have hS:=(hS.aH (Pre:=cN S e x::ab b6 32 (aC a)::aw::bC d {y with S5:=S5} []) (by repeat(first|with_reducible exact bk.nil|apply bk.ro (by repeat(first|exact zS ..|with_reducible apply zO)) (by rfl)|apply bk.own (by repeat(first|exact sY.head|with_reducible apply sY.tail))))).drop;rw [show gX y.D y.q.ax a=gX x.D x.q.ax a by rw [eD,show y.q.ax=x.q.ax from congrArg Us.ax eq_]];obtain ⟨⟨n,ok⟩,hp⟩:∃p:Int×Bool,p=gX x.D x.q.ax a:=⟨_,rfl⟩;rw [←hp];refine ⟨_,rfl,?_⟩;refine ah ?_;refine RL.cM (place19_r S e x (by rw [←eD];omega) a) ?_;clear hS;rintro _ m _ ⟨rfl,S,rfl⟩ hS;simp only [zC,zN]at hS;rw [←hp];refine ⟨_,rfl,?_⟩;refine ah ?_;rw [show((n,ok).fst !=(n,ok).fst)=false from bne_self_eq_false _];refine ah ?_;rw [show(!((n,ok).snd==(n,ok).snd))=false by cases ok<;>rfl];obtain ⟨s,mm,⟨vL,vK,vT,vD,vMk,vV,vW⟩,hS⟩:=gr hS;obtain ⟨AL,cL,hvL,_,_,hAL⟩:=Sl.gY oC bP (hS.bE (show dO vL x.L∈_ from(by repeat(first|exact zS ..|with_reducible apply zO)))) (by decide);obtain ⟨nl,If⟩:∃nl,nl=x.L.length:=⟨_,rfl⟩;rw [←If]at hvL;subst hvL;refine ah ?_;rcases Nat.eq_zero_or_pos nl with h0|h0
    ·rw [show((nl:Int)==0)=true by rw [h0];rfl];refine ah ?_;exact QN.vu (QN.br (QN.tr (QN.aj rfl rfl ⟨_,rfl,[],⟨rfl,rfl⟩,Tr.drop (H:=[]) hS⟩)))
    ·rw [show((nl:Int)==0)=false by rw [beq_eq_false_iff_ne];omega];obtain ⟨n',rfl⟩:∃n',nl=n'+1:=⟨nl-1,by omega⟩;obtain ⟨j,hj⟩:∃j:Nat,j=((wh%((n'+1:Nat):Int)).toNat+k)%(n'+1):=⟨_,rfl⟩;have xy:j<n'+1:=by rw [hj];exact Nat.mod_lt _ (Nat.succ_pos _)
     obtain ⟨z,hz⟩:∃z,x.L[j]?=some z:=⟨_,List.getElem?_eq_getElem (by omega)⟩;obtain ⟨ad,rfl⟩:=hAL j z hz;have hS:=(hS.aH (Pre:=ab b6 32 (aC a)::kf e s mm x ⟨.slice (some ad) (n'+1) cL,vK,vT,vD,vMk,vV,vW⟩ (aw::bC d {y with S5:=S5} [])) (by repeat(first|with_reducible exact bk.nil|apply bk.ro (by repeat(first|exact zS ..|with_reducible apply zO)) (by rfl)|apply bk.own (by repeat(first|exact sY.head|with_reducible apply sY.tail))))).drop;refine ah ?_;refine WP.bG (kf e s mm x ⟨.slice (some ad) (n'+1) cL,vK,vT,vD,vMk,vV,vW⟩ (aw::bC d {y with S5:=S5} [])) hS (an.ay fun _ h=>zO _ h) (by kernel_rfl) ?_;refine aZ ?_;refine RH.cU (AJ wh n' (by omega)) (fun m hS=>?_) (hs:=.nil) (hL:=an.ay fun _ h=>zO _ h);refine aZ ?_;obtain ⟨w,hw,hwl⟩:∃w:Nat,wh%((n'+1:Nat):Int)=(w:Int)∧w≤n':=by
      have h1:=Int.emod_nonneg wh (show((n'+1:Nat):Int)≠0 by omega);have h2:=Int.emod_lt_of_pos wh (show(0:Int)<((n'+1:Nat):Int) by omega);exact ⟨(wh%((n'+1:Nat):Int)).toNat,by omega,by omega⟩
     rw [hw]at hj ⊢;rw [ag ((w:Int)+(k:Int)) (by omega) (by omega),show(w:Int)+(k:Int)=((w+k:Nat):Int) by omega,ij (w+k) (n'+1),show(w+k)%(n'+1)=j from hj.symm];refine aZ ?_;refine RH.fg aa ai.calm oC bP (JS.bE (show dO (.slice (some ad) (n'+1) cL) x.L∈_ from(by repeat(first|exact zS ..|with_reducible apply zO)))) hz 0 (iC z.id) rfl rfl rfl (by kernel_rfl) rfl rfl rfl (by simp only [ur,add_add]) rfl rfl rfl ?_;refine aZ ?_
     (try clear hS);intro m hS
     refine RL.N1 (RH.aD hS (an.ay fun _ h=>zO _ h) ?_);refine RH.stop (by rfl) (QN.calm ?_);refine QN.N1 ?_;have hS:Tr m0 M0 X m (ab b6 32 (aC ⟨z.id,a.b⟩)::kf e s mm x ⟨.slice (some ad) (n'+1) cL,vK,vT,vD,vMk,vV,vW⟩ (aw::bC d {y with S5:=S5} [])):=hS;have hS:=(hS.aH (Pre:=kf e s mm x ⟨.slice (some ad) (n'+1) cL,vK,vT,vD,vMk,vV,vW⟩ (ab b6 32 (aC ⟨z.id,a.b⟩)::aw::bC d {y with S5:=S5} [])) (by repeat(first|with_reducible exact bk.nil|apply bk.ro (by repeat(first|exact zS ..|with_reducible apply zO)) (by rfl)|apply bk.own (by repeat(first|exact sY.head|with_reducible apply sY.tail))))).drop;obtain ⟨S,hS⟩:=cR hS;have hS:=(hS.aH (Pre:=ab b6 32 (aC ⟨z.id,a.b⟩)::aw::bC d {y with S5:=S5} [cN S e x]) (by repeat(first|with_reducible exact bk.nil|apply bk.ro (by repeat(first|exact zS ..|with_reducible apply zO)) (by rfl)|apply bk.own (by repeat(first|exact sY.head|with_reducible apply sY.tail))))).drop;refine ah ?_;rw [ag ((k:Int)+1) (by omega) (by omega),show(k:Int)+1=((k+1:Nat):Int) by omega];exact QN.round (k+1,⟨z.id,a.b⟩,S5,S) (by repeat(first|exact Sub.nil|refine Sub.C1 rfl ?_)) ⟨aM,hS⟩ (by dsimp only;omega)
   ·rw [decide_eq_false (show¬(k:Int)<3 by omega)];refine ah ?_;exact QN.du (k,a,S5,S) (by repeat(first|exact Sub.nil|refine Sub.C1 rfl ?_)) hS
  ·clear hS;rintro ⟨k,a,S5,S⟩ m hS;dsimp only at hS ⊢;refine QN.bx ?_;refine ah ?_;exact QN.aj rfl rfl ⟨_,rfl,[],⟨rfl,rfl⟩,Tr.drop (H:=[]) hS⟩
theorem mu64_el{H:Type}{enc:TypeId×Value→H}{W:World}{sp:Nat→Bool}{hd:Bool}{base:Nat}(cs:List Value)(n:Nat)(y:DataW H×List MemPlace)(hy:DataW.trod enc Tryz.prog W base sp hd n 28 cs=some y):∃k:Nat,cs=[Value.int .u64 k]∧k<18446744073709551616:=by
 obtain ⟨z,rfl,_,hw⟩:=DataW.trod_int (NR 28 rfl rfl) hy;have hz:=Po hw (lo:=0) (hi:=18446744073709551615) (by decide) (by decide);exact ⟨z.toNat,by rw [Int.toNat_of_nonneg hz.1],by omega⟩
set_option maxRecDepth 100000 in
theorem open_anc{H:Type}{enc:TypeId×Value→H}{W:World}{v:Value}{d:DataW H}{ps:List MemPlace}
  (h:DataW.Trod enc Tryz.prog W 0 (fun _=>true) true 32 v d ps):∃a:sF,v=aV a∧a.id.c<18446744073709551616∧a.id.k<18446744073709551616:=by
 obtain ⟨fuel,h⟩:=h;obtain ⟨n1,ds,_,hl,hf⟩:=open_stru (NR 32 rfl rfl) h;rw [cellsOf 32 rfl (k:=3) rfl]at hl;obtain ⟨y0,h0,_⟩:=hf 0 _ _ _ rfl;obtain ⟨y1,h1,_⟩:=hf 1 _ _ _ rfl;obtain ⟨n2,ds2,_,_,N5⟩:=open_stru (NR 30 rfl rfl) h0;obtain ⟨y2,h2,_⟩:=N5 0 _ _ _ rfl;obtain ⟨y3,h3,_⟩:=N5 1 _ _ _ rfl;obtain ⟨k0,e0,b0⟩:=mu64_el _ _ _ h2;obtain ⟨k1,e1,b1⟩:=mu64_el _ _ _ h3;obtain ⟨q,e2,_⟩:=DataW.trod_bool (NR 4 rfl rfl) h1;have key:v.cells.toList=[.int .u64 k0,.int .u64 k1,.bool q]:=by
  generalize v.cells.toList=cs at hl e0 e1 e2
  match cs,hl with
  |[a,b,c],_=>
   simp at e0 e1 e2;subst e0;subst e1;subst e2;rfl
 have hv:∀u:Value,u.cells.toList=[.int .u64 k0,.int .u64 k1,.bool q]→∃c,u=.agg c:=fun u key=>by
  cases u
  case agg c=>exact ⟨c,rfl⟩
  all_goals (simp [Value.cells]at key)
 obtain ⟨c,hv⟩:=hv v key;subst hv;refine ⟨⟨⟨k0,k1⟩,q⟩,congrArg Value.agg ?_,b0,b1⟩;have:c.toList=[.int .u64 k0,.int .u64 k1,.bool q]:=key;apply Array.ext';rw [this];rfl
end Go.Proofs.YtgpgladbdoimdaaGreatDoor
