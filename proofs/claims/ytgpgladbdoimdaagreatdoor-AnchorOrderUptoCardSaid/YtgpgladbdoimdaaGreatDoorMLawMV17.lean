/- Texts that belong together. -/
import Derived.Test.YtgpgladbdoimdaaGreatDoorMLawMV12
import Derived.Test.YtgpgladbdoimdaaGreatDoorMLawMV14
namespace Go.Ev
section
open Go.RowKit
variable{P:Program} {T:Ty} {ops:Array Oper} {Q:Exit→Act→World→Prop} {rest:List Oper} {n:Nat} {e e':Env} {D:Fr} {m:World}
 {d:Option Tmp} {x:Operand} {t ty:TypeId} {pos:String} {aft:Array Edge} {g:Option (Nat×Bool)} {r:Row}
theorem RL.clear(hT:T.Ok P){te tb:TypeId}{b off k c:Nat}{cs:List Value}(he:T.elem t=some (te,r))(hB:bw m b tb cs)(hg:gd ops e ⟨d,.call ⟨.builtin .clear,#[x],#[t]⟩,ty,pos,aft,g⟩=some true)
  (hx:e.ev x=some (.slice (some ⟨b,off,none⟩) k c))(hk:0<k)(hlen:off+k*r.size≤cs.length)(h1:∀v∈(Builtin.zeroCells r.zero.cells k).toList,v.oneCell'=true)(hp:aQ n d (.tuple #[]) e=some e')
  (h:∀m',gD m b (.cells (cs.take off++(Builtin.zeroCells r.zero.cells k).toList++cs.drop (off+k*r.size)).toArray tb (0,0)) m'→RL P ops Q rest n e' D m'):
  RL P ops Q (⟨d,.call ⟨.builtin .clear,#[x],#[t]⟩,ty,pos,aft,g⟩::rest) n e D m:=by
 obtain ⟨rt,dD,sD,hr,tN,cz,_⟩:=Ty.dK he;have hu:=(hT.row dD).k;rw [sD]at hu;obtain ⟨i,hi,yc,A7,_⟩:=(hT.row hr).parts;have hl:=fE r.zero.cells k;rw [tN]at hl;refine RL.fX _ (m.setRow b (cs.take off++(Builtin.zeroCells r.zero.cells k).toList++cs.drop (off+k*r.size)).toArray) hg (fun a w hf hs=>?_) hp (h _ (fC hB _));have hw:w.heap[b]?=some (.cells cs.toArray tb (0,0)):=by rw [hs.heap];exact hB
 have h3:=run_storeCells_at P b off tb (Builtin.zeroCells r.zero.cells k).toList 0 cs.toArray w hw (by rw [List.size_toArray];omega) h1;refine ⟨w.setRow b (cs.take off++(Builtin.zeroCells r.zero.cells k).toList++cs.drop (off+k*r.size)).toArray,?_,hs.setRow b _⟩;simp only [wJ]at h3;rw [hl]at h3;obtain ⟨q,rfl⟩:∃q,k=q+1:=⟨k-1,J9⟩;simp [execOp,resolve,invoke,builtin,Builtin.clear_,hf.ev hx,run_underlying hu,zeroValue,typeInfo,hi,yc];simp only [wM]at h3;rw [h3];simp
end
open Go.RowKit
theorem Own.MM{m:World}{S:List Nat}{t:TypeId}{sz g n cap i:Nat}{xs:List Value}(h:Ev.Own m S t sz (.slice (some ⟨g,0,none⟩) n cap) n xs)(hn:0<n)(hi:i≤n):Ev.Own m S t sz (.slice (some ⟨g,0,none⟩) i cap) i (xs.take (i*sz)):=by
 obtain ⟨g',cap',cur,hv,hB,h1,h2,h3,h4,rfl⟩:=h.at_ hn
 injection hv with hv Vh Rz
 injection hv with hv
 injection hv with hv
 subst hv;subst Rz;have hle:i*sz≤n*sz:=wP _ hi;refine ⟨?_,.inr ⟨g,cap,cur,rfl,hB,J9,h2,h3,?_,rfl⟩⟩
 ·rw [yA,h.1];omega
 ·rw [←h4,tF,zR hle]
end Go.Ev
namespace Go.Proofs.YtgpgladbdoimdaaGreatDoor
open Go.RowKit Go.Ev Go.Ids
theorem DY(k:Nat):∀v∈(Builtin.zeroCells (#[.int .u64 0,.int .u64 0,.int .u64 0,.int .u64 0]:Array Value) k).toList,v.oneCell'=true:=by
 intro v hv;simp only [Builtin.zeroCells,xP,vE]at hv;obtain ⟨q,_,rfl⟩:=hv;have h4:q%(#[.int .u64 0,.int .u64 0,.int .u64 0,.int .u64 0]:Array Value).size<4:=vP _ YA;generalize q%(#[.int .u64 0,.int .u64 0,.int .u64 0,.int .u64 0]:Array Value).size=z at h4
 match z,h4 with
 |0,_=>rfl
 |1,_=>rfl
 |2,_=>rfl
 |3,_=>rfl
theorem zc(l:List aK)(k:Nat):(l.flatMap tC).take (k*4)=(l.take k).flatMap tC:=by
 induction k generalizing l with
 |zero=>simp
 |succ k ih=>
  cases l with
  |nil=>simp
  |cons x l=>
   rw [vH,List.take_succ_cons,vH,←ih l,xQ,wQ];exact List.take_length_add_append (l₁:=tC x) (k*4)
theorem GM(l:List aK)(k:Nat):(l.flatMap tC).drop (k*4)=(l.drop k).flatMap tC:=by
 induction k generalizing l with
 |zero=>simp
 |succ k ih=>
  cases l with
  |nil=>simp
  |cons x l=>
   exact ah6
theorem K4(l:List aK)(k:Nat)(y:aK):(l.flatMap tC).take (k*4)++tC y++(l.flatMap tC).drop (k*4+4)=(l.take k++[y]++l.drop (k+1)).flatMap tC:=by
 rw [zc,show k*4+4=(k+1)*4 by omega,GM];simp
theorem ny(a b:List aK):a.flatMap tC++b.flatMap tC=(a++b).flatMap tC:=by simp
theorem HP(m:World)(v:Value)(l:List aK)(h:Ts m [] v l)(hl:l.length<1000000000)(k:FuncId)(ca:List Value)(p:aK→Bool)(hf:∀m1 x,Ext m [] m1→dg Tryz.prog k (tV x::ca) m1 fun r m2=>r=.bool (p x)∧Ext m1 [] m2):
  dg Tryz.prog 216 [v,.func (.func k) #[] ca.toArray] m fun r m'=>((r=.int .i64 (-1)∧l.any p=false)∨∃i:Nat,r=.int .i64 i∧i<l.length∧(l.take i).any p=false∧∃h:i<l.length,p l[i]=true)∧Ext m [] m':=by
 obtain ⟨A,c,rfl,_,_⟩:=h.shape;refine aP.zA Tryz.func216 ?_;refine af5 ?_;refine WP.loop (X:=Nat) (fun i=>[(0,.slice A l.length c),(1,.func (.func k) #[] ca.toArray),(7,.int .i64 l.length),(8,.int .i64 i)]) (fun i m'=>i≤l.length∧(l.take i).any p=false∧Ext m [] m') (fun i=>l.length-i) 0
  YC ⟨YA,YA,Ext.refl _ _⟩ ?_
 rintro i m1 ⟨hi,ht,hE⟩;refine aa8 ?_;refine WP.cond rfl (fun hc=>?_) (fun hc=>?_)
 ·have hc:i<l.length:=by have:=xS hc;omega
  obtain ⟨ad,rfl,hx⟩:=(h.bQ hE).cell i hc;refine ab7 ?_;refine aa0 ?_;refine ab3 ?_;refine ab0 ?_;refine RL.aJ aa (tC l[i]) rfl rfl rfl hx rfl ?_;refine RL.call (fi:=[]) (ca:=ca) rfl rfl rfl rfl (hf m1 l[i] hE) ?_;rintro _ m2 ⟨rfl,bM⟩;refine aa1 ?_;have sk:=hE.trans bM YA;refine RL.N1 (YE ?_);refine WP.cond rfl (fun hp=>?_) (fun hp=>?_)
  ·refine ab5 ?_;exact QN.aj rfl rfl ⟨_,rfl,.inr ⟨i,rfl,hc,ht,hc,hp⟩,sk⟩
  ·refine aj2 ?_;refine RL.N1 (QN.round (i+1) (Sub.C1 rfl (Sub.C1 rfl (Sub.C1 rfl (Sub.C1 ?_ Sub.nil)))) ⟨J9,?_,sk⟩ J9)
   ·show some (Value.int .i64 (IntKind.i64.wrap ((i:Int)+1)))=some (Value.int .i64 ((i+1:Nat):Int));rw [ag _ J9 J9];rfl
   ·rw [vN hc,List.any_append,ht];simp [hp]
 ·have hc:i=l.length:=by have:=vX hc;omega
  subst hc;rw [wF]at ht;refine af3 ?_;exact QN.aj rfl rfl ⟨_,rfl,.inl ⟨rfl,ht⟩,hE⟩
theorem filter_none{p:aK→Bool}{l:List aK}(h:l.any p=false):l.filter (fun x=>!p x)=l:=by
 rw [List.filter_eq_self];intro x hx;have:=List.any_eq_false.1 h x hx;simp [this]
theorem El(m:World)(S:List Nat)(v:Value)(l:List aK)(h:Ev.Own m S 122 4 v l.length (l.flatMap tC))(hl:l.length<1000000000)(k:FuncId)(ca:List Value)(p:aK→Bool)(K:World→Prop)(Tk:K m)(hK:∀a b,K a→Ext a S b→K b)
  (hf:∀m1 x,K m1→dg Tryz.prog k (tV x::ca) m1 fun r m2=>r=.bool (p x)∧Ext m1 [] m2):
  dg Tryz.prog 176 [v,.func (.func k) #[] ca.toArray] m fun r m'=>Ev.Own m' S 122 4 r (l.filter fun x=>!p x).length ((l.filter fun x=>!p x).flatMap tC)∧Ext m S m':=by
 have hT:Ts m [] v l:=h.sl YA;refine aP.zA Tryz.func176 ?_;refine YG ?_;refine RL.A1 aa rfl ?_;refine RL.N1 (YE ?_);refine RL.A1 aa rfl ?_;refine zM (HP m v l hT hl k ca p (fun m1 x hE=>hf m1 x (hK m m1 Tk (hE.mono YA)))) ?_;rintro _ m1 ⟨⟨rfl,hn⟩|⟨i0,rfl,uj,Oe,CY,I3⟩,dd⟩
 ·refine ai2 ?_;refine aa0 ?_;refine WP.da rfl ?_;refine ab5 ?_;refine QN.aj rfl rfl ⟨_,rfl,?_,dd.mono YA⟩;rw [filter_none hn];exact h.ext dd YA
 ·refine aa1 ?_;have Fa:=h.ext dd YA;have Wu:=hK m m1 Tk (dd.mono YA);obtain ⟨g,cap,cur,rfl,_,_,_,_,_,rfl⟩:=h.at_ J9;refine RL.A1 aa rfl ?_;refine RL.N1 (YE ?_);refine RL.pure aa 2 rfl ?_;refine RL.eqv (v':=.bool false) (xZ _ (uN.2 J9)) ?_;refine RL.N1 (YE ?_);refine WP.bg rfl ?_;refine WP.skip (YE ?_);refine RL.pure aa 2 rfl ?_;refine RL.eqv (v':=.int .i64 ((i0+1:Nat):Int)) (xZ _ Jb) ?_;refine RL.A1 aa rfl ?_;refine RL.N1 (YE ?_);have Np:(l.take (i0+1)).filter (fun x=>!p x)=l.take i0:=by
   rw [vN uj,xX,filter_none Oe];simp [I3]
  refine (WP.loop (X:=Nat×List aK) (fun q=>[(0,.slice (some ⟨g,0,none⟩) l.length cap),(1,.func (.func k) #[] ca.toArray),(5,.int .i64 ((l.take q.1).filter fun x=>!p x).length),(6,.int .i64 q.1)])
   (fun q m'=>q.1≤l.length∧((l.take q.1).filter fun x=>!p x).length<q.1∧q.2.length=l.length∧q.2.take ((l.take q.1).filter fun x=>!p x).length=((l.take q.1).filter fun x=>!p x)∧q.2.drop q.1=l.drop q.1∧
    Ev.Own m' [g] 122 4 (.slice (some ⟨g,0,none⟩) l.length cap) l.length (q.2.flatMap tC)∧Ext m [g] m'∧K m') (fun q=>l.length-q.1) (i0+1,l)
   (Sub.C1 rfl (Sub.C1 rfl (Sub.C1 ?_ YC))) ⟨uj,by rw [Np,yA];omega,rfl,by rw [Np,yA,zR J9],rfl,Fa,dd.mono YA,Wu⟩ ?_)
  ·show some (Value.int .i64 (i0:Int))=some (Value.int .i64 ((((l.take (i0+1)).filter fun x=>!p x).length:Nat):Int));rw [Np,yA,zR J9]
  rintro ⟨j,L⟩ m2 ⟨hj,aM,Fg,BU,BJ,gJ,bM,R6⟩;simp only at hj aM Fg BU BJ gJ R6;refine aa8 ?_;refine WP.cond rfl (fun hc=>?_) (fun hc=>?_)
  ·replace hc:j<l.length:=by have:=xS hc;simp only at this;omega
   have pL:Ts m2 [] (.slice (some ⟨g,0,none⟩) L.length cap) L:=by rw [Fg];exact gJ.sl YA
   obtain ⟨ad,iH,hx⟩:=pL.cell j J9
   injection iH with iH
   subst iH;have Ul:L[j]'(by omega)=l[j]:=by
    have h1:(L.drop j)[0]?=(l.drop j)[0]?:=by rw [BJ]
    rw [vA,vA,wJ,xW J9,xW hc]at h1;exact yR h1
   rw [Ul]at hx;have bo:(l.take (j+1)).filter (fun x=>!p x)=(l.take j).filter (fun x=>!p x)++(if p l[j]then[]else[l[j]]):=by
    rw [vN hc,xX];cases h:p l[j]<;>simp [h]
   have Hs:L.drop (j+1)=l.drop (j+1):=by
    have h1:=xZ (List.drop 1) BJ
    rwa [xL,xL]at h1
   generalize (l.take j).filter (fun x=>!p x)=F at aM BU bo;obtain ⟨x,gi⟩:∃x,l[j]=x:=⟨_,rfl⟩;rw [gi]at hx bo;refine aj2 ?_;refine RL.indexAddr (k:=j) aa rfl rfl rfl rfl rfl rfl rfl hc rfl ?_;refine RL.aJ aa (tC x) rfl rfl rfl hx rfl ?_;refine RL.alloc aa rfl rfl (fun b7 m3 Ro sP=>⟨_,rfl,?_⟩);refine RL.bF aa (b:=b7) (i:=0) (vs:=tC x) (cs:=[.int .u64 0,.int .u64 0,.int .u64 0,.int .u64 0]) sP.fc rfl rfl rfl rfl rfl YA Ju rfl ?_;intro m4 jf;have eQ:Ext m2 [] m4:=(sP.new J9).trans jf.ext (fun q hq=>.inr JZ);have mo:bw m4 b7 122 (tC x):=jf.fc;have gl:=gJ.ext eQ YA;have QA:=hK _ _ R6 (eQ.mono YA);have l4:=gJ.lt g YA;refine RL.N1 (YE ?_);refine RL.A1 aa rfl ?_;refine RL.aJ aa (tC x) rfl rfl rfl (fun j u hu=>by rw [av];exact mo.cell _ J2) rfl ?_;refine RL.call (fi:=[]) (ca:=ca) rfl rfl rfl rfl (hf m4 x QA) ?_;rintro _ m5 ⟨rfl,ff⟩;refine ⟨_,rfl,?_⟩;have yf:=mo.ext ff YA;have gZ:=gl.ext ff YA;have Sf:=hK _ _ QA (ff.mono YA);have sS:Ext m2 [] m5:=eQ.trans ff YA;refine RL.A1 aa rfl ?_;refine RL.N1 (YE ?_);refine WP.cond rfl (fun BV=>?_) (fun BV=>?_)
   ·have BV:p x=false:=by simpa using BV
    rw [BV,zX YA]at bo;obtain ⟨g',cap',cur,eY,Cg,UF,sV,eG⟩:=gZ.yo (j:=F.length*4) (k:=4) J9 J9
    injection eY with eY sJ
    injection eY with eY
    injection eY with eY
    subst eY;refine ai1 ?_;refine RL.aJ aa (tC x) rfl rfl rfl (fun j u hu=>by rw [av];exact yf.cell _ J2) rfl ?_;refine RL.indexAddr (k:=F.length) aa rfl rfl rfl rfl rfl rfl rfl J9 rfl ?_;refine RL.eqv (v':=.pointer (some ⟨g,F.length*4,none⟩)) (xZ (fun q=>Value.pointer (some q)) (by rw [av];show(⟨g,0+F.length*4,none⟩:Addr)=_;rw [zU])) ?_;refine RL.bF aa (b:=g) (i:=F.length*4) (vs:=tC x) Cg rfl rfl rfl rfl rfl sV (oL _) rfl ?_;intro m6 jJ;have iz:=eG m6 (tC x) rfl jJ;rw [K4]at iz;have oS:Ext m [g] m6:=(bM.trans (sS.mono YA) (fun k hk=>.inl hk)).trans jJ.ext (fun k hk=>.inl hk);have WI:=hK _ _ Sf jJ.ext;have Wz:(L.take F.length++[x]++L.drop (F.length+1)).length=l.length:=by simp;omega
    refine RL.N1 (YE ?_);refine ab8 ?_;refine RL.eqv (v':=.int .i64 ((F.length+1:Nat):Int)) (xZ _ Jb) ?_;refine aa0 ?_;refine ab8 ?_;refine af9 ?_;have NB:((l.take (j+1)).filter fun x=>!p x).length=F.length+1:=by rw [bo];simp
    refine RL.N1 (QN.round (j+1,L.take F.length++[x]++L.drop (F.length+1)) (Sub.C1 rfl (Sub.C1 rfl (Sub.C1 ?_ YC))) ⟨by show j+1≤_;omega,?_,Wz,?_,?_,iz,oS,WI⟩ Jk)
    ·show some (Value.int .i64 ((F.length+1:Nat):Int))=some (Value.int .i64 ((((l.take (j+1)).filter fun x=>!p x).length:Nat):Int));rw [NB]
    ·show((l.take (j+1)).filter fun x=>!p x).length<j+1;rw [NB];omega
    ·show(L.take F.length++[x]++L.drop (F.length+1)).take ((l.take (j+1)).filter fun x=>!p x).length=(l.take (j+1)).filter fun x=>!p x
     rw [NB,bo,BU];have e1:(F++[x]).length=F.length+1:=by simp
     rw [←e1,xY]
    ·show(L.take F.length++[x]++L.drop (F.length+1)).drop (j+1)=l.drop (j+1);have e1:(L.take F.length++[x]).length=F.length+1:=by simp;omega
     rw [List.drop_append,e1,List.drop_eq_nil_of_le (by rw [e1];omega),yC,xL,←Hs]
     congr 1;omega
   ·have BV:p x=true:=by simpa using BV
    rw [BV,yS rfl,vI]at bo;refine ab7 ?_;refine ab8 ?_;refine af9 ?_;refine RL.N1 (QN.round (j+1,L) (Sub.C1 rfl (Sub.C1 rfl (Sub.C1 ?_ YC))) ⟨by show j+1≤_;omega,?_,Fg,?_,Hs,gZ,bM.trans (sS.mono YA) (fun k hk=>.inl hk),Sf⟩ Jk)
    ·show some (Value.int .i64 ((F.length:Nat):Int))=some (Value.int .i64 ((((l.take (j+1)).filter fun x=>!p x).length:Nat):Int));rw [bo]
    ·show((l.take (j+1)).filter fun x=>!p x).length<j+1;rw [bo];omega
    ·show L.take ((l.take (j+1)).filter fun x=>!p x).length=(l.take (j+1)).filter fun x=>!p x
     rw [bo];exact BU
  ·replace hc:j=l.length:=by have:=vX hc;simp only at this;omega
   subst hc;rw [wF]at aM BU;have e0:(l.take l.length).filter (fun x=>!p x)=l.filter (fun x=>!p x):=by rw [wF]
   have elen:(((l.take l.length).filter fun x=>!p x).length:Nat)=(l.filter fun x=>!p x).length:=by rw [e0]
   generalize l.filter (fun x=>!p x)=F at aM BU e0 elen ⊢;refine ac2 ?_;refine RL.sub (e':=[(0,.slice (some ⟨g,0,none⟩) l.length cap),(5,.int .i64 (F.length:Nat))]) (Sub.C1 rfl (Sub.C1 ?_ Sub.nil)) ?_
   ·show some (Value.int .i64 ((((l.take l.length).filter fun x=>!p x).length:Nat):Int))=_;rw [elen]
   have RS:l.length≤cap:=by
    obtain ⟨g',cap',cur,hv,_,h9,_⟩:=gJ.at_ J9
    injection hv with _ _ hv
   obtain ⟨g',cap',cur,eY,Cg,UF,sV,eG⟩:=gJ.yo (j:=F.length*4) (k:=(l.length-F.length)*4) J9 J9
   injection eY with eY sJ
   injection eY with eY
   injection eY with eY
   subst eY;refine ab3 ?_;refine RL.sliceFrom aa (l:=F.length) rfl rfl rfl rfl rfl J9 rfl ?_;refine RL.eqv (v':=.slice (some ⟨g,F.length*4,none⟩) (l.length-F.length) (cap-F.length)) (by
    rw [zX J9];show Value.slice (some ((⟨g,0,none⟩:Addr).add (F.length*4))) _ _=_;rw [av,zU]) ?_
   refine RL.clear aa (b:=g) (off:=F.length*4) (k:=l.length-F.length) (cs:=cur) rfl Cg rfl rfl J9 sV (DY _) rfl ?_;intro m6 jJ;have iz:=eG m6 _ (by rw [fE];rfl) jJ;have EX:=iz.MM (i:=F.length) J9 J9;have oS:Ext m [g] m6:=bM.trans jJ.ext (fun k hk=>.inl hk);rw [wM,yE (by rw [yA,eu,Fg];omega),tF,Nat.min_self,zc,BU]at EX;refine RL.N1 (YE ?_);refine RL.A1 aa rfl ?_;refine RL.sliceTo (l:=F.length) aa rfl rfl rfl rfl rfl J9 rfl ?_;refine RL.A1 aa rfl ?_;refine RL.N1 (YE ?_);refine WP.ret (YI ?_);exact QN.aj rfl rfl ⟨_,rfl,EX,oS⟩
theorem M9(m:World)(x:aK)(b7:Nat)(a:Nat)(su:bw m b7 28 [.int .u64 a]):dg Tryz.prog 177 [tV x,.pointer (some ⟨b7,0,none⟩)] m fun r m'=>r=.bool (decide (x.t≤a))∧Ext m [] m':=by
 refine aP.zA Tryz.func177 ?_;refine YG ?_;refine RL.box rfl rfl (fun b m1 hb hC=>⟨_,rfl,?_⟩);have hB:bw m1 b 122 (tC x):=hC.here;have hE:Ext m [] m1:=hC.new J9;have hD:=su.ext hE YA;clear hC;refine RL.A1 aa rfl ?_;refine RL.N1 (YE ?_)
 repeat(first|refine RL.pure aa 1 rfl ?_|refine RL.load aa rfl rfl rfl (hB.cell _ rfl) rfl ?_|refine RL.load aa rfl rfl rfl (hD.cell _ rfl) rfl ?_)
 refine aj1 ?_;exact QN.aj rfl rfl ⟨_,rfl,xZ _ (Nn _ _),hE⟩
theorem Ad(a:List aK)(y:aK)(z:Nat):((a++[y]).flatMap tC).set (a.length*4+2) (.int .u64 z)=(a++[{y with t:=z}]).flatMap tC:=by
 rw [vG,vG,tA _ _ (by rw [eu];omega),eu];have:a.length*4+2-a.length*4=2:=by omega
 rw [this];rfl
theorem H7(m:World)(S:List Nat)(v:Value)(r:List aK)(x:aK)(h:Ev.Own m S 122 4 v r.length (r.reverse.flatMap tC))(hl:r.length<1000000000):
  dg Tryz.prog 175 [v,tV x] m fun u m'=>∃S',Ev.Own m' S' 122 4 u (tj r x).length ((tj r x).reverse.flatMap tC)∧Ext m S m'∧bp m S S':=by
 obtain ⟨A5,c5,rfl,W4⟩:=h.shape;refine aP.zA Tryz.func175 ?_;refine YG ?_;refine RL.box rfl rfl (fun b7 m7 Ro hC=>⟨_,rfl,?_⟩);have su:bw m7 b7 122 (tC x):=hC.here;have LP:Ext m [] m7:=hC.new J9;have EX:=h.ext LP YA;have Xb:b7∉S:=fun hh=>by have:=h.lt _ hh;omega
 clear hC;refine aa9 ?_;refine WP.cut (X:=Unit) (fun _=>[(0,.slice A5 r.length c5),(3,.pointer (some ⟨b7,0,none⟩))]) (fun _ m'=>m'=m7∧tj r x=x::r) ?_ ?_
 ·refine YG ?_;rcases r with _|⟨y,r'⟩
  ·refine ad0 ?_;refine RL.eqv (v':=.int .i64 (-1)) rfl ?_;refine aa9 ?_;refine YG ?_;refine WP.dI (fun m'=>m'=m7) [] J7 rfl JJ (fun hQ=>?_);refine RH.pure aa hQ [0,1,2,3,4,5,6,7,8,9,10,11,12,13,14,15,16,17,18,19,20,21,22,23,24,25,26,27,28,29,30,31] J7 rfl ?_;refine RH.done J7 (fun _=>?_);refine YJ ?_;refine ae9 ?_;exact QN.ar () YC ⟨rfl,rfl⟩
  ·have iD:(y::r').length=r'.length+1:=rfl;refine RL.pure aa 3 rfl ?_;refine RL.eqv (v':=.int .i64 r'.length) (xZ _ JG) ?_;refine RL.A1 aa rfl ?_;refine RL.N1 (YJ ?_);refine YG ?_;have KM:Ts m7 [] (.slice A5 (y::r').length c5) (r'.reverse++[y]):=by
    have:=EX.sl (M:=[]) YA;rw [tB]at this;exact this
   obtain ⟨ad5,rfl,hy⟩:=KM.cell r'.length YA;have I7:(r'.reverse++[y])[r'.length]'(by simp)=y:=by simp
   rw [I7]at hy;refine WP.dI (fun m'=>m'=m7) [] J7 rfl JJ (fun hQ=>?_);refine RH.pure aa hQ [0,1] J7 rfl ?_;refine RH.eqv (v':=.bool true) (xZ _ (zW J9)) ?_;refine RH.pure aa hQ [2,3,4] J7 rfl ?_;refine RH.indexAddr aa hQ 5 (k:=r'.length) rfl J7 rfl rfl rfl rfl rfl rfl rfl J9 rfl ?_;refine RH.pure aa hQ [6] J7 rfl ?_;refine RH.load aa hQ 7 (fun m' bm=>by rw [bm];exact hy 0 _ rfl) rfl J7 rfl rfl rfl rfl ?_;refine RH.pure aa hQ [8] J7 rfl ?_;refine RH.load aa hQ 9 (fun m' bm=>by rw [bm];exact su.cell 0 rfl) rfl J7 rfl rfl rfl rfl ?_;refine RH.pure aa hQ [10] J7 rfl ?_
   by_cases h1:y.c=x.c
   ·refine RH.eqv (v':=.bool true) (xZ _ Ji) ?_;refine RH.pure aa hQ [11,12,13,14] J7 rfl ?_;refine RH.indexAddr aa hQ 15 (k:=r'.length) rfl J7 rfl rfl rfl rfl rfl rfl rfl J9 rfl ?_;refine RH.pure aa hQ [16] J7 rfl ?_;refine RH.load aa hQ 17 (fun m' bm=>by rw [bm];exact hy 2 _ rfl) rfl J7 rfl rfl rfl rfl ?_;refine RH.pure aa hQ [18] J7 rfl ?_;refine RH.load aa hQ 19 (fun m' bm=>by rw [bm];exact su.cell 1 rfl) rfl J7 rfl rfl rfl rfl ?_;refine RH.pure aa hQ [20] J7 rfl ?_
    by_cases h2:y.t=x.f
    ·refine RH.eqv (v':=.bool true) (xZ _ Jh) ?_;refine RH.pure aa hQ [21,22,23,24] J7 rfl ?_;refine RH.indexAddr aa hQ 25 (k:=r'.length) rfl J7 rfl rfl rfl rfl rfl rfl rfl J9 rfl ?_;refine RH.pure aa hQ [26] J7 rfl ?_;refine RH.load aa hQ 27 (fun m' bm=>by rw [bm];exact hy 3 _ rfl) rfl J7 rfl rfl rfl rfl ?_;refine RH.pure aa hQ [28] J7 rfl ?_;refine RH.load aa hQ 29 (fun m' bm=>by rw [bm];exact su.cell 3 rfl) rfl J7 rfl rfl rfl rfl ?_;refine RH.pure aa hQ [30] J7 rfl ?_
     by_cases h3:y.n=x.n
     ·refine RH.eqv (v':=.bool true) (xZ _ (by rw [AY];exact zW h3)) ?_;refine RH.pure aa hQ [31] J7 rfl ?_;refine RH.done J7 (fun _=>?_);refine YJ ?_;refine WP.da rfl ?_;have xu:Ev.Own m7 S 122 4 (.slice (some ad5) (y::r').length c5) (y::r').length ((r'.reverse++[y]).flatMap tC):=by
       have:=EX;rw [tB]at this;exact this
      obtain ⟨g,cap,cur,mS,Is,rfl,G0,eG⟩:=xu.Ci (j:=r'.length*4+2) (by rw [iD];omega)
      injection mS with mS Fk
      injection mS with mS
      subst mS;refine ai1 ?_;refine RL.load aa rfl rfl rfl (su.cell 2 rfl) rfl ?_;refine RL.indexAddr (k:=r'.length) aa rfl rfl rfl rfl rfl rfl rfl J9 rfl ?_;refine RL.eqv (v':=.pointer (some ⟨g,r'.length*4,none⟩)) (xZ (fun q=>Value.pointer (some q)) (by rw [av];show(⟨g,0+r'.length*4,none⟩:Addr)=_;rw [zU])) ?_;refine ab3 ?_;refine RL.store aa Is (i:=r'.length*4+2) (v:=.int .u64 x.t) G0 rfl rfl rfl rfl rfl rfl ?_;intro m9 yb;have zb:=eG m9 _ yb;rw [show r'.length*4+2=r'.reverse.length*4+2 by rw [xC],Ad,←tB]at zb;have I5:tj (y::r') x={y with t:=x.t}::r':=by rw [ik,yS ⟨h1,h2,h3⟩]
      refine RL.N1 (YE ?_);refine ac0 ?_;refine QN.aj rfl rfl ⟨_,rfl,[g],?_,(LP.mono YA).trans yb.ext (fun k hk=>.inl hk),bp.refl _ _⟩;rw [I5];exact zb
     ·refine RH.eqv (v':=.bool false) (xZ _ (by rw [AY];exact zV h3)) ?_;refine RH.pure aa hQ [31] J7 rfl ?_;refine RH.done J7 (fun _=>?_);refine YJ ?_;refine ae9 ?_;exact QN.ar () YC ⟨rfl,by rw [ik,zX (fun hh=>h3 hh.2.2)]⟩
    ·refine RH.eqv (v':=.bool false) (xZ _ Jf) ?_;refine RH.pure aa hQ [21,22,23,24,25,26,27,28,29,30,31] J7 rfl ?_;refine RH.done J7 (fun _=>?_);refine YJ ?_;refine ae9 ?_;exact QN.ar () YC ⟨rfl,by rw [ik,zX (fun hh=>h2 hh.2.1)]⟩
   ·refine RH.eqv (v':=.bool false) (xZ _ Jg) ?_;refine RH.pure aa hQ [11,12,13,14,15,16,17,18,19,20,21,22,23,24,25,26,27,28,29,30,31] J7 rfl ?_;refine RH.done J7 (fun _=>?_);refine YJ ?_;refine ae9 ?_;exact QN.ar () YC ⟨rfl,by rw [ik,zX (fun hh=>h1 hh.1)]⟩
 ·rintro _ mc ⟨rfl,I5⟩;refine YJ ?_;refine ai1 ?_;refine RL.aJ aa (tC x) rfl rfl rfl (fun j u hu=>by rw [av];exact su.cell _ J2) rfl ?_;refine RL.dZ aa [.tmp 49] EX (us:=[tV x]) (tC x) rfl rfl rfl rfl rfl rfl rfl rfl rfl (by simp [tV,tC,Value.cells]) (by simp [tV,Value.cells]) (oL x) Jy Jr ?_;intro v8 m8 S8 xu BC OH;refine aa1 ?_;refine ac0 ?_;refine QN.aj rfl rfl ⟨_,rfl,S8,?_,(LP.mono YA).trans BC (fun k hk=>.inl hk),OH.trans' LP⟩;rw [I5,tB,←ny];exact xu
theorem Ig(x:aL):∀v∈iC x,v.oneCell'=true:=by simp [iC,Value.oneCell']
theorem qh:∀l:List aL,(l.flatMap iC).length=l.length*2
 |[]=>rfl
 |x::l=>by simp [iC,qh l];omega
theorem Dr:∀(l:List aL) (k:Nat) (h:k<l.length) (j:Nat),j<2→(l.flatMap iC)[k*2+j]?=(iC l[k])[j]?
 |x::l,0,_,j,hj=>by
  rw [vH,vJ (by simp [iC];omega)];simp
 |x::l,k+1,h,j,hj=>by
  rw [vH,vM (by simp [iC];omega)];have:(k+1)*2+j-(iC x).length=k*2+j:=by simp [iC];omega
  rw [this,Dr l k J5 j hj];simp
def Js(m:World)(M:List Nat)(v:Value)(l:List aL):Prop:=Sl m M 2 v (l.flatMap iC)
theorem Js.shape{m:World}{M:List Nat}{v:Value}{l:List aL}(h:Js m M v l):∃A c,v=.slice A l.length c∧l.length≤c∧c≤maxLen:=Sl.shape h (qh l) J9
theorem Js.bQ{m m':World}{v:Value}{l:List aL}(h:Js m [] v l)(hE:Ext m [] m'):Js m' [] v l:=Sl.ext h hE YA J9
theorem Js.cell{m:World}{M:List Nat}{A:Option Addr}{n c:Nat}{l:List aL}(h:Js m M (.slice A n c) l)(k:Nat)(hk:k<l.length):∃ad,A=some ad∧∀j u,(iC l[k])[j]?=some u→m.cell? ((ad.add (k*2)).add j)=some u:=by
 obtain ⟨hl,_⟩:=Sl.len h;rw [qh]at hl;obtain ⟨ad,rfl,_,hc⟩:=Sl.addr h J9;refine ⟨ad,rfl,fun j u hu=>?_⟩;have hj:j<2:=by have:=(yV.1 hu).1;simpa [iC]using this
 rw [add_add];exact hc _ u (by rw [Dr l k hk j hj];exact hu)
theorem EW(k:Nat):∀v∈(Builtin.zeroCells (#[.int .u64 0,.int .u64 0]:Array Value) k).toList,v.oneCell'=true:=by
 intro v hv;simp only [Builtin.zeroCells,xP,vE]at hv;obtain ⟨q,_,rfl⟩:=hv;have h4:q%(#[.int .u64 0,.int .u64 0]:Array Value).size<2:=vP _ YA;generalize q%(#[.int .u64 0,.int .u64 0]:Array Value).size=z at h4
 match z,h4 with
 |0,_=>rfl
 |1,_=>rfl
 |2,_=>rfl
 |3,_=>rfl
theorem AP(l:List aL)(k:Nat):(l.flatMap iC).take (k*2)=(l.take k).flatMap iC:=by
 induction k generalizing l with
 |zero=>simp
 |succ k ih=>
  cases l with
  |nil=>simp
  |cons x l=>
   rw [vH,List.take_succ_cons,vH,←ih l,xQ,wQ];exact List.take_length_add_append (l₁:=iC x) (k*2)
theorem GA(l:List aL)(k:Nat):(l.flatMap iC).drop (k*2)=(l.drop k).flatMap iC:=by
 induction k generalizing l with
 |zero=>simp
 |succ k ih=>
  cases l with
  |nil=>simp
  |cons x l=>
   exact ah6
theorem Ku(l:List aL)(k:Nat)(y:aL):(l.flatMap iC).take (k*2)++iC y++(l.flatMap iC).drop (k*2+2)=(l.take k++[y]++l.drop (k+1)).flatMap iC:=by
 rw [AP,show k*2+2=(k+1)*2 by omega,GA];simp
theorem FM(m:World)(v:Value)(l:List aL)(h:Js m [] v l)(hl:l.length<1000000000)(k:FuncId)(ca:List Value)(p:aL→Bool)(hf:∀m1 x,Ext m [] m1→dg Tryz.prog k (iV x::ca) m1 fun r m2=>r=.bool (p x)∧Ext m1 [] m2):
  dg Tryz.prog 197 [v,.func (.func k) #[] ca.toArray] m fun r m'=>((r=.int .i64 (-1)∧l.any p=false)∨∃i:Nat,r=.int .i64 i∧i<l.length∧(l.take i).any p=false∧∃h:i<l.length,p l[i]=true)∧Ext m [] m':=by
 obtain ⟨A,c,rfl,_,_⟩:=h.shape;refine aP.zA Tryz.func197 ?_;refine af5 ?_;refine WP.loop (X:=Nat) (fun i=>[(0,.slice A l.length c),(1,.func (.func k) #[] ca.toArray),(7,.int .i64 l.length),(8,.int .i64 i)]) (fun i m'=>i≤l.length∧(l.take i).any p=false∧Ext m [] m') (fun i=>l.length-i) 0
  YC ⟨YA,YA,Ext.refl _ _⟩ ?_
 rintro i m1 ⟨hi,ht,hE⟩;refine aa8 ?_;refine WP.cond rfl (fun hc=>?_) (fun hc=>?_)
 ·have hc:i<l.length:=by have:=xS hc;omega
  obtain ⟨ad,rfl,hx⟩:=(h.bQ hE).cell i hc;refine ab7 ?_;refine aa0 ?_;refine ab3 ?_;refine ab0 ?_;refine RL.aJ aa (iC l[i]) rfl rfl rfl hx rfl ?_;refine RL.call (fi:=[]) (ca:=ca) rfl rfl rfl rfl (hf m1 l[i] hE) ?_;rintro _ m2 ⟨rfl,bM⟩;refine aa1 ?_;have sk:=hE.trans bM YA;refine RL.N1 (YE ?_);refine WP.cond rfl (fun hp=>?_) (fun hp=>?_)
  ·refine ab5 ?_;exact QN.aj rfl rfl ⟨_,rfl,.inr ⟨i,rfl,hc,ht,hc,hp⟩,sk⟩
  ·refine aj2 ?_;refine RL.N1 (QN.round (i+1) (Sub.C1 rfl (Sub.C1 rfl (Sub.C1 rfl (Sub.C1 ?_ Sub.nil)))) ⟨J9,?_,sk⟩ J9)
   ·show some (Value.int .i64 (IntKind.i64.wrap ((i:Int)+1)))=some (Value.int .i64 ((i+1:Nat):Int));rw [ag _ J9 J9];rfl
   ·rw [vN hc,List.any_append,ht];simp [hp]
 ·have hc:i=l.length:=by have:=vX hc;omega
  subst hc;rw [wF]at ht;refine af3 ?_;exact QN.aj rfl rfl ⟨_,rfl,.inl ⟨rfl,ht⟩,hE⟩
theorem mY{p:aL→Bool}{l:List aL}(h:l.any p=false):l.filter (fun x=>!p x)=l:=by
 rw [List.filter_eq_self];intro x hx;have:=List.any_eq_false.1 h x hx;simp [this]
theorem E0(m:World)(S:List Nat)(v:Value)(l:List aL)(h:Ev.Own m S 30 2 v l.length (l.flatMap iC))(hl:l.length<1000000000)(k:FuncId)(ca:List Value)(p:aL→Bool)(K:World→Prop)(Tk:K m)(hK:∀a b,K a→Ext a S b→K b)
  (hf:∀m1 x,K m1→dg Tryz.prog k (iV x::ca) m1 fun r m2=>r=.bool (p x)∧Ext m1 [] m2):
  dg Tryz.prog 201 [v,.func (.func k) #[] ca.toArray] m fun r m'=>Ev.Own m' S 30 2 r (l.filter fun x=>!p x).length ((l.filter fun x=>!p x).flatMap iC)∧Ext m S m':=by
 have hT:Js m [] v l:=h.sl YA;refine aP.zA Tryz.func201 ?_;refine YG ?_;refine RL.A1 aa rfl ?_;refine RL.N1 (YE ?_);refine RL.A1 aa rfl ?_;refine zM (FM m v l hT hl k ca p (fun m1 x hE=>hf m1 x (hK m m1 Tk (hE.mono YA)))) ?_;rintro _ m1 ⟨⟨rfl,hn⟩|⟨i0,rfl,uj,Oe,CY,I3⟩,dd⟩
 ·refine ai2 ?_;refine aa0 ?_;refine WP.da rfl ?_;refine ab5 ?_;refine QN.aj rfl rfl ⟨_,rfl,?_,dd.mono YA⟩;rw [mY hn];exact h.ext dd YA
 ·refine aa1 ?_;have Fa:=h.ext dd YA;have Wu:=hK m m1 Tk (dd.mono YA);obtain ⟨g,cap,cur,rfl,_,_,_,_,_,rfl⟩:=h.at_ J9;refine RL.A1 aa rfl ?_;refine RL.N1 (YE ?_);refine RL.pure aa 2 rfl ?_;refine RL.eqv (v':=.bool false) (xZ _ (uN.2 J9)) ?_;refine RL.N1 (YE ?_);refine WP.bg rfl ?_;refine WP.skip (YE ?_);refine RL.pure aa 2 rfl ?_;refine RL.eqv (v':=.int .i64 ((i0+1:Nat):Int)) (xZ _ Jb) ?_;refine RL.A1 aa rfl ?_;refine RL.N1 (YE ?_);have Np:(l.take (i0+1)).filter (fun x=>!p x)=l.take i0:=by
   rw [vN uj,xX,mY Oe];simp [I3]
  refine (WP.loop (X:=Nat×List aL) (fun q=>[(0,.slice (some ⟨g,0,none⟩) l.length cap),(1,.func (.func k) #[] ca.toArray),(5,.int .i64 ((l.take q.1).filter fun x=>!p x).length),(6,.int .i64 q.1)])
   (fun q m'=>q.1≤l.length∧((l.take q.1).filter fun x=>!p x).length<q.1∧q.2.length=l.length∧q.2.take ((l.take q.1).filter fun x=>!p x).length=((l.take q.1).filter fun x=>!p x)∧q.2.drop q.1=l.drop q.1∧
    Ev.Own m' [g] 30 2 (.slice (some ⟨g,0,none⟩) l.length cap) l.length (q.2.flatMap iC)∧Ext m [g] m'∧K m') (fun q=>l.length-q.1) (i0+1,l)
   (Sub.C1 rfl (Sub.C1 rfl (Sub.C1 ?_ YC))) ⟨uj,by rw [Np,yA];omega,rfl,by rw [Np,yA,zR J9],rfl,Fa,dd.mono YA,Wu⟩ ?_)
  ·show some (Value.int .i64 (i0:Int))=some (Value.int .i64 ((((l.take (i0+1)).filter fun x=>!p x).length:Nat):Int));rw [Np,yA,zR J9]
  rintro ⟨j,L⟩ m2 ⟨hj,aM,Fg,BU,BJ,gJ,bM,R6⟩;simp only at hj aM Fg BU BJ gJ R6;refine aa8 ?_;refine WP.cond rfl (fun hc=>?_) (fun hc=>?_)
  ·replace hc:j<l.length:=by have:=xS hc;simp only at this;omega
   have pL:Js m2 [] (.slice (some ⟨g,0,none⟩) L.length cap) L:=by rw [Fg];exact gJ.sl YA
   obtain ⟨ad,iH,hx⟩:=pL.cell j J9
   injection iH with iH
   subst iH;have Ul:L[j]'(by omega)=l[j]:=by
    have h1:(L.drop j)[0]?=(l.drop j)[0]?:=by rw [BJ]
    rw [vA,vA,wJ,xW J9,xW hc]at h1;exact yR h1
   rw [Ul]at hx;have bo:(l.take (j+1)).filter (fun x=>!p x)=(l.take j).filter (fun x=>!p x)++(if p l[j]then[]else[l[j]]):=by
    rw [vN hc,xX];cases h:p l[j]<;>simp [h]
   have Hs:L.drop (j+1)=l.drop (j+1):=by
    have h1:=xZ (List.drop 1) BJ
    rwa [xL,xL]at h1
   generalize (l.take j).filter (fun x=>!p x)=F at aM BU bo;obtain ⟨x,gi⟩:∃x,l[j]=x:=⟨_,rfl⟩;rw [gi]at hx bo;refine aj2 ?_;refine RL.indexAddr (k:=j) aa rfl rfl rfl rfl rfl rfl rfl hc rfl ?_;refine RL.aJ aa (iC x) rfl rfl rfl hx rfl ?_;refine RL.alloc aa rfl rfl (fun b7 m3 Ro sP=>⟨_,rfl,?_⟩);refine RL.bF aa (b:=b7) (i:=0) (vs:=iC x) (cs:=[.int .u64 0,.int .u64 0]) sP.fc rfl rfl rfl rfl rfl YA (by simp [iC,Value.oneCell']) rfl ?_;intro m4 jf;have eQ:Ext m2 [] m4:=(sP.new J9).trans jf.ext (fun q hq=>.inr JZ);have mo:bw m4 b7 30 (iC x):=jf.fc;have gl:=gJ.ext eQ YA;have QA:=hK _ _ R6 (eQ.mono YA);have l4:=gJ.lt g YA;refine RL.N1 (YE ?_);refine RL.A1 aa rfl ?_;refine RL.aJ aa (iC x) rfl rfl rfl (fun j u hu=>by rw [av];exact mo.cell _ J2) rfl ?_;refine RL.call (fi:=[]) (ca:=ca) rfl rfl rfl rfl (hf m4 x QA) ?_;rintro _ m5 ⟨rfl,ff⟩;refine ⟨_,rfl,?_⟩;have yf:=mo.ext ff YA;have gZ:=gl.ext ff YA;have Sf:=hK _ _ QA (ff.mono YA);have sS:Ext m2 [] m5:=eQ.trans ff YA;refine RL.A1 aa rfl ?_;refine RL.N1 (YE ?_);refine WP.cond rfl (fun BV=>?_) (fun BV=>?_)
   ·have BV:p x=false:=by simpa using BV
    rw [BV,zX YA]at bo;obtain ⟨g',cap',cur,eY,Cg,UF,sV,eG⟩:=gZ.yo (j:=F.length*2) (k:=2) J9 J9
    injection eY with eY sJ
    injection eY with eY
    injection eY with eY
    subst eY;refine ai1 ?_;refine RL.aJ aa (iC x) rfl rfl rfl (fun j u hu=>by rw [av];exact yf.cell _ J2) rfl ?_;refine RL.indexAddr (k:=F.length) aa rfl rfl rfl rfl rfl rfl rfl J9 rfl ?_;refine RL.eqv (v':=.pointer (some ⟨g,F.length*2,none⟩)) (xZ (fun q=>Value.pointer (some q)) (by rw [av];show(⟨g,0+F.length*2,none⟩:Addr)=_;rw [zU])) ?_;refine RL.bF aa (b:=g) (i:=F.length*2) (vs:=iC x) Cg rfl rfl rfl rfl rfl sV (Ig _) rfl ?_;intro m6 jJ;have iz:=eG m6 (iC x) rfl jJ;rw [Ku]at iz;have oS:Ext m [g] m6:=(bM.trans (sS.mono YA) (fun k hk=>.inl hk)).trans jJ.ext (fun k hk=>.inl hk);have WI:=hK _ _ Sf jJ.ext;have Wz:(L.take F.length++[x]++L.drop (F.length+1)).length=l.length:=by simp;omega
    refine RL.N1 (YE ?_);refine ab8 ?_;refine RL.eqv (v':=.int .i64 ((F.length+1:Nat):Int)) (xZ _ Jb) ?_;refine aa0 ?_;refine ab8 ?_;refine af9 ?_;have NB:((l.take (j+1)).filter fun x=>!p x).length=F.length+1:=by rw [bo];simp
    refine RL.N1 (QN.round (j+1,L.take F.length++[x]++L.drop (F.length+1)) (Sub.C1 rfl (Sub.C1 rfl (Sub.C1 ?_ YC))) ⟨by show j+1≤_;omega,?_,Wz,?_,?_,iz,oS,WI⟩ Jk)
    ·show some (Value.int .i64 ((F.length+1:Nat):Int))=some (Value.int .i64 ((((l.take (j+1)).filter fun x=>!p x).length:Nat):Int));rw [NB]
    ·show((l.take (j+1)).filter fun x=>!p x).length<j+1;rw [NB];omega
    ·show(L.take F.length++[x]++L.drop (F.length+1)).take ((l.take (j+1)).filter fun x=>!p x).length=(l.take (j+1)).filter fun x=>!p x
     rw [NB,bo,BU];have e1:(F++[x]).length=F.length+1:=by simp
     rw [←e1,xY]
    ·show(L.take F.length++[x]++L.drop (F.length+1)).drop (j+1)=l.drop (j+1);have e1:(L.take F.length++[x]).length=F.length+1:=by simp;omega
     rw [List.drop_append,e1,List.drop_eq_nil_of_le (by rw [e1];omega),yC,xL,←Hs]
     congr 1;omega
   ·have BV:p x=true:=by simpa using BV
    rw [BV,yS rfl,vI]at bo;refine ab7 ?_;refine ab8 ?_;refine af9 ?_;refine RL.N1 (QN.round (j+1,L) (Sub.C1 rfl (Sub.C1 rfl (Sub.C1 ?_ YC))) ⟨by show j+1≤_;omega,?_,Fg,?_,Hs,gZ,bM.trans (sS.mono YA) (fun k hk=>.inl hk),Sf⟩ Jk)
    ·show some (Value.int .i64 ((F.length:Nat):Int))=some (Value.int .i64 ((((l.take (j+1)).filter fun x=>!p x).length:Nat):Int));rw [bo]
    ·show((l.take (j+1)).filter fun x=>!p x).length<j+1;rw [bo];omega
    ·show L.take ((l.take (j+1)).filter fun x=>!p x).length=(l.take (j+1)).filter fun x=>!p x
     rw [bo];exact BU
  ·replace hc:j=l.length:=by have:=vX hc;simp only at this;omega
   subst hc;rw [wF]at aM BU;have e0:(l.take l.length).filter (fun x=>!p x)=l.filter (fun x=>!p x):=by rw [wF]
   have elen:(((l.take l.length).filter fun x=>!p x).length:Nat)=(l.filter fun x=>!p x).length:=by rw [e0]
   generalize l.filter (fun x=>!p x)=F at aM BU e0 elen ⊢;refine ac2 ?_;refine RL.sub (e':=[(0,.slice (some ⟨g,0,none⟩) l.length cap),(5,.int .i64 (F.length:Nat))]) (Sub.C1 rfl (Sub.C1 ?_ Sub.nil)) ?_
   ·show some (Value.int .i64 ((((l.take l.length).filter fun x=>!p x).length:Nat):Int))=_;rw [elen]
   have RS:l.length≤cap:=by
    obtain ⟨g',cap',cur,hv,_,h9,_⟩:=gJ.at_ J9
    injection hv with _ _ hv
   obtain ⟨g',cap',cur,eY,Cg,UF,sV,eG⟩:=gJ.yo (j:=F.length*2) (k:=(l.length-F.length)*2) J9 J9
   injection eY with eY sJ
   injection eY with eY
   injection eY with eY
   subst eY;refine ab3 ?_;refine RL.sliceFrom aa (l:=F.length) rfl rfl rfl rfl rfl J9 rfl ?_;refine RL.eqv (v':=.slice (some ⟨g,F.length*2,none⟩) (l.length-F.length) (cap-F.length)) (by
    rw [zX J9];show Value.slice (some ((⟨g,0,none⟩:Addr).add (F.length*2))) _ _=_;rw [av,zU]) ?_
   refine RL.clear aa (b:=g) (off:=F.length*2) (k:=l.length-F.length) (cs:=cur) rfl Cg rfl rfl J9 sV (EW _) rfl ?_;intro m6 jJ;have iz:=eG m6 _ (by rw [fE];rfl) jJ;have EX:=iz.MM (i:=F.length) J9 J9;have oS:Ext m [g] m6:=bM.trans jJ.ext (fun k hk=>.inl hk);rw [wM,yE (by rw [yA,qh,Fg];omega),tF,Nat.min_self,AP,BU]at EX;refine RL.N1 (YE ?_);refine RL.A1 aa rfl ?_;refine RL.sliceTo (l:=F.length) aa rfl rfl rfl rfl rfl J9 rfl ?_;refine RL.A1 aa rfl ?_;refine RL.N1 (YE ?_);refine WP.ret (YI ?_);exact QN.aj rfl rfl ⟨_,rfl,EX,oS⟩
def Mr(mB mZ:World)(Z:List Nat)(m:World)(b5 b6 b7:Nat)(P:List aK)(c0 a:Nat)(op out:List aK):Prop:=
 jS P c0 a op out∧Ext mB [] m∧∃S5 S6 v5 v6,bw m b5 45 [v5]∧bw m b6 45 [v6]∧bw m b7 28 [.int .u64 a]∧
  Ev.Own m S5 122 4 v5 out.length (out.reverse.flatMap tC)∧Ev.Own m S6 122 4 v6 op.length (op.flatMap tC)∧
  (∀k∈S5,mB.heap.size≤k∧k≠b5∧k≠b6∧k≠b7∧k∉S6)∧(∀k∈S6,mB.heap.size≤k∧k≠b5∧k≠b6∧k≠b7)∧
  ∀k∈Z,k<m.heap.size∧m.heap[k]?=mZ.heap[k]?∧k≠b5∧k≠b6∧k≠b7∧k∉S5∧k∉S6
theorem EC(u:Nat)(l:List aK)(j:Nat)(h:j<l.length):dm u (l.take (j+1))=min (dm u (l.take j)) l[j].t:=by
 unfold dm;rw [vN h,vO];rfl
theorem E5(l:List aK)(j:Nat)(h:j<l.length):fA (l.take (j+1))=max (fA (l.take j)) l[j].n:=by
 unfold fA;rw [vN h,vO];rfl
theorem V3(a b:Nat):Value.int .u64 (if(b:Int)<(a:Int)then(b:Int)else(a:Int))=.int .u64 (min a b:Nat):=xZ _ (by split<;>omega)
theorem Uf(a b:Nat):Value.int .u64 (if(b:Int)>(a:Int)then(b:Int)else(a:Int))=.int .u64 (max a b:Nat):=xZ _ (by split<;>omega)
theorem GN(r:List aK)(x:aK):(tj r x).length≤r.length+1:=by
 cases r with
 |nil=>simp [tj]
 |cons y r=>rw [ik];split<;>simp
theorem y9{op:List aK}{u:Nat}(h:dm u op<u):(op.filter fun x=>decide (¬x.t≤dm u op)).length+1≤op.length:=by
 obtain ⟨-,-,h3⟩:=oY op u;rcases h3 with h3|⟨x,hx,h3⟩
 ·omega
 ·generalize dm u op=e at*;subst h3
  induction op with
  |nil=>cases hx
  |cons y l ih=>
   rw [List.filter_cons];rcases yH.1 hx with rfl|hx
   ·rw [zX YA];have:=xD (fun z:aK=>decide (¬z.t≤x.t)) l;simp only [yF];omega
   ·have h1:=ih hx
    split<;>simp only [yF]<;>omega
theorem Dy(mB mZ:World)(Z:List Nat)(m:World)(b5 b6 b7:Nat)(hb:b5≠b6∧b5≠b7∧b6≠b7∧mB.heap.size≤b5∧mB.heap.size≤b6∧mB.heap.size≤b7)(P:List aK)(c0 a:Nat)(op out:List aK)(u:Nat)(hu:u≤9007199254740992)
  (h:Mr mB mZ Z m b5 b6 b7 P c0 a op out)(hl:out.length+op.length<1000000000)(Tu:a≤u):
  dg Tryz.prog 174 [.int .u64 c0,.int .u64 u,.pointer (some ⟨b6,0,none⟩),.pointer (some ⟨b7,0,none⟩),.pointer (some ⟨b5,0,none⟩)] m fun _ m'=>∃a' op' out',Mr mB mZ Z m' b5 b6 b7 P c0 a' op' out'∧(op'=[]∨a'=u)∧a'≤u∧out'.length+op'.length≤out.length+op.length+1:=by
 obtain ⟨Ew,BE,IQ,Xf,P9,Yf⟩:=hb;refine aP.zA Tryz.func174 ?_;refine (WP.B1 ?_);refine (WP.loop (X:=Nat×List aK×List aK) (fun _=>[(0,.int .u64 c0),(1,.int .u64 u),(2,.pointer (some ⟨b6,0,none⟩)),(3,.pointer (some ⟨b7,0,none⟩)),(4,.pointer (some ⟨b5,0,none⟩))])
  (fun x m'=>x.1≤u∧(x.2.2.length+x.2.1.length≤out.length+op.length∨(x.1=u∧x.2.2.length+x.2.1.length≤out.length+op.length+1))∧Mr mB mZ Z m' b5 b6 b7 P c0 x.1 x.2.1 x.2.2) (fun x=>u-x.1) (a,op,out)
  YC ⟨Tu,.inl (yP _),h⟩ ?_)
 rintro ⟨a1,op1,out1⟩ m1 ⟨WB,sI,EP,dd,S5,S6,v5,v6,g1,g2,g3,g4,g5,g6,g7,g8⟩;simp only at WB sI EP g3 g4 g5;obtain ⟨A6,c6,rfl,_⟩:=g5.shape;refine YG ?_;refine RL.load aa rfl rfl rfl (g2.cell 0 rfl) rfl ?_;refine ac6 ?_;rcases x4:op1 with _|⟨y,op2⟩
 ·subst x4;refine aa0 ?_;refine WP.bg rfl ?_;refine ac2 ?_;exact QN.kg rfl ⟨_,rfl,a1,[],out1,⟨EP,dd,S5,S6,v5,_,g1,g2,g3,g4,g5,g6,g7,g8⟩,.inl rfl,WB,J9⟩
 have dP:op1≠[]:=by rw [x4];simp
 have Zi:y.c=c0:=(EP.opens y (by rw [x4];simp)).2.1;rw [←x4];have fh:0<op1.length:=by rw [x4];simp
 have PZ:Ts m1 [] (.slice A6 op1.length c6) op1:=g5.sl YA;obtain ⟨ad,rfl,hx⟩:=PZ.cell 0 fh;have Qf:op1[0]=y:=by simp [x4]
 rw [Qf]at hx;refine ac6 ?_;refine ac1 ?_;refine ac6 ?_;refine af8 ?_;refine RL.load aa rfl rfl rfl (hx 0 _ rfl) rfl ?_;refine ab8 ?_;refine RL.eqv (v':=.bool true) (xZ _ (by rw [AY];exact zW Zi)) ?_;refine ab8 ?_;refine RL.load aa rfl rfl rfl (g3.cell 0 rfl) rfl ?_
 by_cases OI:a1<u
 rotate_left
 ·refine ab8 ?_;refine RL.eqv (v':=.bool false) (xZ _ (by rw [sv];exact zV OI)) ?_;refine aa0 ?_;refine WP.bg rfl ?_;refine ac2 ?_;exact QN.kg rfl ⟨_,rfl,a1,op1,out1,⟨EP,dd,S5,S6,v5,_,g1,g2,g3,g4,g5,g6,g7,g8⟩,.inr J9,WB,J9⟩
 have sI:out1.length+op1.length≤out.length+op.length:=by rcases sI with h1|h1<;>omega
 obtain ⟨p1,p2,p3⟩:=EP.piece dP OI hu;refine ab8 ?_;refine RL.eqv (v':=.bool true) (xZ _ (by rw [sv];exact zW OI)) ?_;refine aa0 ?_;refine WP.da rfl ?_;refine ab7 ?_;refine aa0 ?_;refine RL.load aa rfl rfl rfl (g2.cell 0 rfl) rfl ?_;refine aa0 ?_;refine (WP.loop (X:=Nat) (fun j=>[(0,.int .u64 c0),(1,.int .u64 u),(2,.pointer (some ⟨b6,0,none⟩)),(3,.pointer (some ⟨b7,0,none⟩)),(4,.pointer (some ⟨b5,0,none⟩)),(28,.slice (some ad) op1.length c6),(29,.int .i64 op1.length),(7,.int .u64 (dm u (op1.take j))),(8,.int .u64 (fA (op1.take j))),(30,.int .i64 j)])
  (fun j m'=>j≤op1.length∧Ext m1 [] m') (fun j=>op1.length-j) 0
  YC ⟨YA,Ext.refl _ _⟩ ?_)
 rintro j m2 ⟨hj,bM⟩;refine aa8 ?_;refine WP.cond rfl (fun hc=>?_) (fun hc=>?_)
 ·have hc:j<op1.length:=by have:=xS hc;omega
  obtain ⟨ad',Oj,hz⟩:=(PZ.bQ bM).cell j hc
  injection Oj with Oj
  subst Oj;refine ab7 ?_;refine RL.indexAddr (k:=j) aa rfl rfl rfl rfl rfl rfl rfl hc rfl ?_;refine RL.aJ aa (tC op1[j]) rfl rfl rfl hz rfl ?_;refine RL.alloc aa rfl rfl (fun b10 m3 Vc sP=>⟨_,rfl,?_⟩);refine RL.bF aa (b:=b10) (i:=0) (vs:=tC op1[j]) (cs:=[.int .u64 0,.int .u64 0,.int .u64 0,.int .u64 0]) sP.fc rfl rfl rfl rfl rfl YA Ju rfl ?_;intro m4 jf;have eQ:Ext m2 [] m4:=(sP.new J9).trans jf.ext (fun q hq=>.inr (by have h9:q=b10:=J3;omega));have mo:bw m4 b10 122 (tC op1[j]):=jf.fc;refine RL.N1 (YJ ?_);refine YG ?_;refine WP.dI (fun m'=>m'=m4) [] J7 rfl JJ (fun hQ=>?_);refine RH.pure aa hQ [0,1] J7 rfl ?_;refine RH.load aa hQ 2 (fun m' bm=>by rw [bm];exact mo.cell 2 rfl) rfl J7 rfl rfl rfl rfl ?_;refine RH.pure aa hQ [3] J7 rfl ?_;refine RH.eqv (v':=.int .u64 (dm u (op1.take (j+1)))) (by rw [EC u op1 j hc];exact V3 _ _) ?_;refine RH.pure aa hQ [4,5] J7 rfl ?_;refine RH.load aa hQ 6 (fun m' bm=>by rw [bm];exact mo.cell 3 rfl) rfl J7 rfl rfl rfl rfl ?_;refine RH.pure aa hQ [7] J7 rfl ?_;refine RH.eqv (v':=.int .u64 (fA (op1.take (j+1)))) (by rw [E5 op1 j hc];exact Uf _ _) ?_;refine RH.pure aa hQ [8,9] J7 rfl ?_;refine RH.done J7 (fun _=>?_);refine YJ ?_;refine YG ?_;refine RL.pure aa 1 rfl ?_;refine RL.eqv (v':=.int .i64 ((j+1:Nat):Int)) (xZ _ Jb) ?_;refine RL.A1 aa rfl ?_;exact RL.N1 (QN.round (j+1) YC ⟨J9,bM.trans eQ YA⟩ J9)
 ·have hc:j=op1.length:=by have:=vX hc;omega
  subst hc;rw [wF];have k1:=g1.ext bM YA;have k2:=g2.ext bM YA;have k3:=g3.ext bM YA;have k4:=g4.ext bM YA;have k5:=g5.ext bM YA;have gz:=dd.trans bM YA;have lt5:=k1.lt;have lt6:=k2.lt;have lt7:=k3.lt;have ltS6:=k5.lt;have px:=GN out1 ⟨c0,a1,dm u op1,fA op1⟩;refine WP.exit (YD ?_);refine YG ?_;refine RL.load aa rfl rfl rfl (k1.cell 0 rfl) rfl ?_;refine RL.A1 aa rfl ?_;refine RL.load aa rfl rfl rfl (k3.cell 0 rfl) rfl ?_;refine RL.A1 aa rfl ?_;refine RL.eqv (v':=tV ⟨c0,a1,dm u op1,fA op1⟩) rfl ?_;refine zM (H7 m2 S5 v5 out1 ⟨c0,a1,dm u op1,fA op1⟩ k4 J9) ?_;rintro w5 m3 ⟨T5,km,eN,Lh⟩;refine ⟨_,rfl,?_⟩;have j5:∀k∈T5,mB.heap.size≤k∧k≠b5∧k≠b6∧k≠b7∧k∉S6:=fun k hk=>by
   rcases Lh k hk with h9|h9
   ·exact g6 k h9
   ·have:=gz.size;exact ⟨J9,J9,J9,J9,fun hh=>by have:=ltS6 k hh;omega⟩
  have q1:=k1.ext eN (fun hh=>(g6 _ hh).2.1 rfl);have q2:=k2.ext eN (fun hh=>(g6 _ hh).2.2.1 rfl);have q3:=k3.ext eN (fun hh=>(g6 _ hh).2.2.2.1 rfl);have q5:=k5.ext eN (fun k hk hh=>(g6 _ hh).2.2.2.2 hk);have zf:=gz.trans eN (fun k hk=>.inr (g6 k hk).1);refine RL.store aa q1 (i:=0) (v:=w5) YA rfl rfl rfl rfl km.one rfl ?_;intro m4 jf;have r1:bw m4 b5 45 [w5]:=jf.fc;have r2:=q2.ej jf J9;have r3:=q3.ej jf J9;have r4:=km.ext jf.ext (fun k hk hh=>(j5 k hk).2.1 J4);have r5:=q5.ext jf.ext (fun k hk hh=>(g7 k hk).2.1 J4);have Bt:=zf.trans jf.ext (fun k hk=>.inr (by have h9:k=b5:=(by simpa using hk);omega));refine RL.N1 (YE ?_);refine RL.A1 aa rfl ?_;refine RL.store aa r3 (i:=0) (v:=.int .u64 (dm u op1)) YA rfl rfl rfl rfl rfl rfl ?_;intro m5 ki;have t1:=r1.ej ki J9;have t2:=r2.ej ki J9;have t3:bw m5 b7 28 [.int .u64 (dm u op1)]:=ki.fc;have t4:=r4.ext ki.ext (fun k hk hh=>(j5 k hk).2.2.2.1 J4);have t5:=r5.ext ki.ext (fun k hk hh=>(g7 k hk).2.2.2 J4);have OG:=Bt.trans ki.ext (fun k hk=>.inr Ja);refine RL.N1 (YE ?_);refine RL.load aa rfl rfl rfl (t2.cell 0 rfl) rfl ?_;refine RL.A1 aa rfl ?_;refine zM (El m5 S6 _ op1 t5 J9 177 [.pointer (some ⟨b7,0,none⟩)] (fun x=>decide (x.t≤dm u op1)) (fun q=>bw q b7 28 [.int .u64 (dm u op1)]) t3 (fun q1 q2 hq hE=>hq.ext hE (fun hh=>(g7 _ hh).2.2.2 rfl)) (fun q1 x hq=>M9 q1 x b7 _ hq)) ?_;rintro w6 m6 ⟨iz,oS⟩;refine ⟨_,rfl,?_⟩;have ZV:(op1.filter fun x=>!decide (x.t≤dm u op1))=op1.filter fun x=>decide (¬x.t≤dm u op1):=List.filter_congr (fun x _=>by rw [decide_not])
  rw [ZV]at iz;have u1:=t1.ext oS (fun hh=>(g7 _ hh).2.1 rfl);have u2:=t2.ext oS (fun hh=>(g7 _ hh).2.2.1 rfl);have u3:=t3.ext oS (fun hh=>(g7 _ hh).2.2.2 rfl);have u4:=t4.ext oS (fun k hk hh=>(j5 k hk).2.2.2.2 hh);have Wl:=OG.trans oS (fun k hk=>.inr (g7 k hk).1);refine RL.store aa u2 (i:=0) (v:=w6) YA rfl rfl rfl rfl iz.one rfl ?_;intro m7 wx;have Wx:=Wl.trans wx.ext (fun k hk=>.inr (by have h9:k=b6:=(by simpa using hk);omega));have kd:=xD (fun x:aK=>decide (¬x.t≤dm u op1)) op1;have Yb:∀k∈Z,k<m7.heap.size∧m7.heap[k]?=mZ.heap[k]?∧k≠b5∧k≠b6∧k≠b7∧k∉T5∧k∉S6:=fun k hk=>by
   obtain ⟨z1,z2,z3,z4,z5,z6,z7⟩:=g8 k hk;have e2:=bM.size;have e3:=eN.size;have e4:=jf.ext.size;have e5:=ki.ext.size;have e6:=oS.size;have e7:=wx.ext.size;refine ⟨J9,?_,z3,z4,z5,fun hh=>?_,z7⟩
   ·exact (wx.ej k J9).trans ((oS.ej k J9 z7).trans ((ki.ej k J9).trans ((jf.ej k J9).trans ((eN.ej k J9 z6).trans ((bM.ej k J9 YA).trans z2)))))
   ·rcases Lh k hh with h9|h9
    ·exact z6 h9
    ·omega
  refine RL.N1 ?_;refine YJ ?_;refine QN.round (dm u op1,op1.filter (fun x=>decide (¬x.t≤dm u op1)),tj out1 ⟨c0,a1,dm u op1,fA op1⟩) YC ⟨p2,?_,p3,Wx,T5,S6,w5,w6,u1.ej wx J9,wx.fc,u3.ej wx J9,u4.ext wx.ext (fun k hk hh=>(j5 k hk).2.2.1 J4),iz.ext wx.ext (fun k hk hh=>(g7 k hk).2.2.1 J4),j5,g7,Yb⟩ (by show u-dm u op1<u-a1;omega);rcases Nat.lt_or_eq_of_le p2 with h9|h9
  ·have:=y9 h9;exact .inl (by simp only;omega)
  ·exact .inr ⟨h9,by simp only;omega⟩
theorem Cm(m:World)(v u:Value)(a b:List bB)(h:Cs m [] v a)(h':Cs m [] u b)(hl:a.length+b.length<100000000):dg Tryz.prog 113 [v,u] m fun r m'=>AI m r (jO a b) m':=by
 obtain ⟨A,c,rfl,_,_⟩:=h.shape;obtain ⟨B,c',rfl,_,_⟩:=h'.shape;refine aP.zA Tryz.func113 ?_;refine aa8 ?_;refine ab3 ?_;have Ma:Sl m [] 2 (.slice A a.length c) (a.flatMap cC):=h;refine RL.append aa (Own.empty _ _ _ _) (a.flatMap cC) (Src.cS Ma) rfl rfl rfl rfl rfl (nL a) (CP a) Jy (by show(0+_)*16≤_;omega) ?_;intro v1 m1 S1 Fa dd Rp;refine ⟨_,rfl,?_⟩;have Mm:Sl m1 [] 2 (.slice B b.length c') (b.flatMap cC):=h'.bQ dd;have KS:ek m S1 m1:=⟨dd,Rp⟩;refine RL.A1 aa rfl ?_;refine RL.append aa Fa (b.flatMap cC) (Src.cS Mm) rfl rfl rfl rfl rfl (nL b) (CP b) Jy (by show(0+_+_)*16≤_;omega) ?_;intro v2 m2 S2 gJ bM TI;refine ⟨_,rfl,?_⟩;have gz:Ext m [] m2:=dd.trans bM (fun k hk=>.inr (KS.ge k hk));have pL:Cs m2 [] v2 (a++b):=by
  have h9:=gJ.sl (M:=[]) YA;rw [yC,KC]at h9;exact h9
 refine zM (zg m2 _ _ pL Jl) ?_;rintro v3 m3 ZQ;refine aa1 ?_;refine ac0 ?_;exact QN.aj rfl rfl ⟨_,rfl,ZQ.from_ gz⟩
end Go.Proofs.YtgpgladbdoimdaaGreatDoor
namespace Go.Proofs.YtgpgladbdoimdaaGreatDoor
open Go.RowKit Go.Ev Go.Ids
def qZ(m:World)(b1 b2 b3:Nat)(v:Value)(l:List aK)(pre:List aK)(a:World):Prop:=
 ∃S ov,bw a b3 45 [ov]∧Ev.Own a S 122 4 ov pre.length (pre.flatMap tC)∧(∀k∈S,m.heap.size≤k∧k≠b3∧k≠b1∧k≠b2)∧Ext m [] a∧TK b1 b2 v l 169 a
theorem qZ.kc{m a b:World}{b1 b2 b3 B:Nat}{v:Value}{l pre:List aK}(h:qZ m b1 b2 b3 v l pre a)(hK:Kc B a b)(hB:m.heap.size≤B):qZ m b1 b2 b3 v l pre b:=by
 obtain ⟨S,ov,h1,h2,h3,h4,h5,h6,h7⟩:=h;exact ⟨S,ov,h1.kc hK,h2.kc hK,h3,h4.Dp hK hB,h5.kc hK,h6.kc hK,Sl.kc h7 hK⟩
def nF(m:World)(r:Value)(L:List aK)(m':World):Prop:=∃S',Ev.Own m' S' 122 4 r L.length (L.flatMap tC)∧ek m S' m'
theorem nF.ext{m m':World}{r:Value}{l:List aK}(h:nF m r l m'):Ext m [] m':=by obtain ⟨_,_,h⟩:=h;exact h.1
theorem nF.ts{m m':World}{r:Value}{l:List aK}(h:nF m r l m'):Ts m' [] r l:=by obtain ⟨_,h,_⟩:=h;exact h.sl YA
def DJ(l L:List aK):Prop:=bb L∧(∀c k,ak L c k=ak l c k)∧L.length≤2*l.length+2
theorem AD(m:World)(v:Value)(l:List aK)(h:Ts m [] v l)(hl:l.length<200000000):
  dg Tryz.prog 128 [v] m fun r m'=>∃L,DJ l L∧nF m r L m':=by
 obtain ⟨A,c,rfl,_,_⟩:=h.shape;refine aP.zB Tryz.func128 ?_;refine YG ?_;refine aa9 ?_;refine YG ?_;refine RL.alloc aa rfl rfl (fun b3 m1 IQ ph=>⟨_,rfl,?_⟩);have yw:bw m1 b3 45 [.slice none 0 0]:=ph.fc;have dd:Ext m [] m1:=ph.new J9;have s1:=ph.size;refine RL.N1 (YE ?_);refine RL.A1 aa rfl ?_;refine zM (E2 m1 (.slice A l.length c) l 169) ?_;rintro _ m2 ⟨b1,b2,rfl,g1,g2,bM,Hw⟩;refine ⟨_,rfl,?_⟩;have Hw:=Hw (h.bQ dd);have pX:=yw.ext bM YA;have sk:=dd.trans bM YA;have lb1:=Hw.1.lt;have lb2:=Hw.2.1.lt;have lb3:=pX.lt;refine RL.sub (e':=[(3,.pointer (some ⟨b3,0,none⟩)),(13,.func (.func 212) #[] #[.pointer (some ⟨b1,0,none⟩),.pointer (some ⟨b2,0,none⟩)])]) YC ?_;refine RL.N1 (YE ?_);refine WP.rangeFunc (ps:=[14]) (gf:=212) (lb:=[.pointer (some ⟨b1,0,none⟩),.pointer (some ⟨b2,0,none⟩)]) (fun x:aK=>[tV x]) rfl (B7 m2 b1 b2 (.slice A l.length c) l J9 169 aK.right (fun m1 x=>Oh m1 x)) ⟨_,Tryz.func212,J7,J7⟩
  (qZ m b1 b2 b3 (.slice A l.length c) l) (fun _ _ _=>False) (fun pre a b hi hK=>hi.kc hK sk.size) (fun _ _ _ _ hi _=>hi) (fun pre a ⟨_,_,_,_,_,_,hk⟩=>hk)
  ⟨[],.slice none 0 0,pX,Own.empty _ _ _ _,YA,sk,Hw⟩
  (fun x=>[(14,tV x),(3,.pointer (some ⟨b3,0,none⟩)),(13,.func (.func 212) #[] #[.pointer (some ⟨b1,0,none⟩),.pointer (some ⟨b2,0,none⟩)])]) (fun x=>rfl) (fun x=>rfl)
  (fun x b4=>[(4,.pointer (some ⟨b4,0,none⟩)),(3,.pointer (some ⟨b3,0,none⟩))]) (fun pre x b4 a=>bw a b4 122 (tC x)∧qZ m b1 b2 b3 (.slice A l.length c) l pre a) (fun pre x y a b hi hK=>⟨hi.1.kc hK,hi.2.kc hK sk.size⟩)
  ?_ ?_ ?_ ?_
 ·
  rintro lp pre x m3 hI hlen cz;refine WP.R1 ?_;refine RL.alloc aa rfl rfl (fun b4 m4 Xf jf=>⟨_,rfl,?_⟩);have eQ:Ext m3 [] m4:=jf.new J9;refine RL.bF aa (b:=b4) (i:=0) (vs:=tC x) (cs:=[.int .u64 0,.int .u64 0,.int .u64 0,.int .u64 0]) jf.fc rfl rfl rfl rfl rfl YA Ju rfl ?_;intro m5 ki;have ff:Ext m3 [] m5:=eQ.trans ki.ext (fun q hq=>.inr (by have h9:q=b4:=J3;omega));exact RL.N1 (QN.Gn b4 YC ff.XE ⟨ki.fc,hI.kc ff.kc sk.size⟩)
 ·
  rintro lp pre x b4 m3 ⟨mo,S,ov,Cl,hO,hS,eN,vf⟩ hlen cz
  replace hlen:pre.length<l.length:=hlen.2
  refine YG ?_;refine RL.load aa rfl rfl rfl (Cl.cell 0 rfl) rfl ?_;refine RL.aJ aa (tC x) rfl rfl rfl (fun j u hu=>by rw [av];exact mo.cell _ J2) rfl ?_;refine RL.dZ aa [.tmp 16] hO (us:=[tV x]) (tC x) rfl rfl rfl rfl rfl rfl rfl rfl rfl (by simp [tV,tC,Value.cells]) (by simp [tV,Value.cells]) (oL x) Jy Jr ?_;intro v4 m4 S4 gl eQ xx;refine aa1 ?_;have Pf:=Cl.ext eQ (fun hh=>(hS _ hh).2.1 rfl);refine RL.store aa Pf (i:=0) (v:=v4) YA rfl rfl rfl rfl gl.one rfl ?_;intro m5 ki;have l1:=vf.1.lt;have l2:=vf.2.1.lt;have l3:=Cl.lt;have A3:∀k∈S4,m.heap.size≤k∧k≠b3∧k≠b1∧k≠b2:=fun k hk=>by
   rcases xx k hk with h9|h9
   ·exact hS k h9
   ·have:=eN.size;exact ⟨J9,J9,J9,J9⟩
  have ff:Ext m3 (b3::S) m5:=(eQ.mono (fun k hk _=>zO _ hk)).trans ki.ext (fun k hk=>.inl (by have h9:k=b3:=(by simpa using hk);simp [h9]));have Gw:Ext m [] m5:=eN.trans ff (fun k hk=>.inr (by
   rcases yH.1 hk with rfl|hk
   ·omega
   ·exact (hS k hk).1))
  refine RL.N1 ?_;refine YJ ?_;refine QN.Ap (ff.kn (fun k hk _ _=>?_)) ⟨S4,v4,ki.fc,?_,A3,Gw,vf.1.ext ff ?_,vf.2.1.ext ff ?_,h.bQ Gw⟩
  ·rcases yH.1 hk with rfl|hk
   ·exact ⟨_,_,_,Cl⟩
   ·exact hO.cells k hk
  ·rw [zY,vG];exact (gl.ext ki.ext (fun k hk=>by have:=(A3 k hk).2.1;simpa using this))
  ·intro hh;rcases yH.1 hh with h9|h9
   ·omega
   ·exact (hS _ h9).2.2.1 rfl
  ·intro hh;rcases yH.1 hh with h9|h9
   ·omega
   ·exact (hS _ h9).2.2.2 rfl
 ·
  rintro D xs m3 hD rfl ⟨S,ov,Cl,hO,hS,eN,_⟩ hk;have UE:m.heap.size≤D:=wG sk.size hD;have No:D<m3.heap.size:=(wI.1 hk).1;have Pj:D∉S:=fun hh=>by
   obtain ⟨c1,t1,z1,h9⟩:=hO.cells D hh;rw [h9]at hk;cases hk
  have qa:(l.filter aK.right).length≤l.length:=xD _ _;refine YG ?_;refine YJ ?_;refine YG ?_;refine RL.load aa rfl rfl rfl (Cl.cell 0 rfl) rfl ?_;refine zM (K2 m3 S ov _ hO J9) ?_;rintro _ m4 ⟨rfl,eQ,d,pk,Gz,gl⟩;refine ⟨_,rfl,?_⟩;have mo:=Cl.ext eQ (fun hh=>(hS _ hh).2.1 rfl);have LZ:m4.heap[D]?=some (.deferred (some [])):=(eQ.ej D No Pj).trans hk;have Hp:Ext m [] m4:=eN.trans eQ (fun k hk=>.inr (hS k hk).1);have ln:d.length≤l.length:=by rw [pk.length_eq];exact qa
  have Xk:∀x∈d,x.right=true:=fun x hx=>(yY.1 (pk.mem_iff.1 hx)).2
  obtain ⟨A',c',rfl,Uj⟩:=gl.shape;have Qk:Ts m4 [] (.slice A' d.length c') d:=gl.sl YA;have HQ:D<m4.heap.size:=(wI.1 LZ).1;refine RL.N1 (YE ?_);refine RL.alloc aa rfl rfl (fun b5 m5 P9 ki=>⟨_,rfl,?_⟩);refine RL.alloc aa rfl rfl (fun b6 m6 Yf jJ=>⟨_,rfl,?_⟩);have ff:Ext m4 [] m5:=ki.new J9;have oS:Ext m5 [] m6:=jJ.new J9;have s5:=ki.size;have s6:=jJ.size;have ZS:bw m6 b5 45 [.slice none 0 0]:=bw.ext ki.fc oS YA;have ZY:bw m6 b6 45 [.slice none 0 0]:=jJ.fc;clear ki jJ;refine RL.N1 (YE ?_);refine RL.alloc aa rfl rfl (fun b7 m7 Ro wx=>⟨_,rfl,?_⟩);have LP:Ext m6 [] m7:=wx.new J9;have s7:=wx.size;refine RL.store aa (b:=b7) (i:=0) (v:=.int .u64 0) (cs:=[.int .u64 0]) wx.fc YA rfl rfl rfl rfl rfl rfl ?_;intro m8 Qe;have BC:Ext m6 [] m8:=LP.trans Qe.ext (fun k hk=>.inr Ja);have QC:Ext m4 [] m8:=(ff.trans oS YA).trans BC YA;have T7:Mr m4 m4 [] m8 b5 b6 b7 [] 0 0 [] []:=⟨jS.start 0 0,QC,[],[],_,_,ZS.ext BC YA,ZY.ext BC YA,Qe.fc,Own.empty _ _ _ _,Own.empty _ _ _ _,YA,YA,YA⟩;have TP:b5≠b6∧b5≠b7∧b6≠b7∧m4.heap.size≤b5∧m4.heap.size≤b6∧m4.heap.size≤b7:=⟨J9,J9,J9,J9,J9,J9⟩;clear wx Qe;refine RL.N1 (YE ?_);refine RL.A1 aa rfl ?_;refine RL.N1 (YE ?_);refine RL.load aa rfl rfl rfl ((mo.ext QC YA).cell 0 rfl) rfl ?_;refine RL.A1 aa rfl ?_;refine RL.N1 (YE ?_);obtain ⟨fv,Vo⟩:=zP (.func (.func 174) #[] #[.pointer (some ⟨b6,0,none⟩),.pointer (some ⟨b7,0,none⟩),.pointer (some ⟨b5,0,none⟩)]:Value);refine (WP.loop (X:=Nat×Nat×Nat×List aK×List aK) (fun x=>[(22,.slice A' d.length c'),(23,.int .i64 d.length),(24,.int .i64 x.1),(5,.pointer (some ⟨b5,0,none⟩)),(6,.pointer (some ⟨b6,0,none⟩)),(7,.pointer (some ⟨b7,0,none⟩)),(8,fv)])
   (fun x m'=>x.1≤d.length∧Mr m4 m4 [] m' b5 b6 b7 (d.take x.1) x.2.1 x.2.2.1 x.2.2.2.1 x.2.2.2.2∧x.2.2.2.2.length+x.2.2.2.1.length≤2*x.1∧∀y∈d.drop x.1,x.2.1<y.c∨(x.2.1=y.c∧x.2.2.1≤y.f)) (fun x=>d.length-x.1) (0,0,0,[],[])
   (Sub.C1 rfl (Sub.C1 rfl (Sub.C1 rfl (Sub.C1 rfl (Sub.C1 rfl (Sub.C1 rfl (Sub.C1 ?_ Sub.nil))))))) ⟨YA,T7,YA,fun y hy=>.inl (by have:=aT.1 (Xk y (by simpa using hy));show 0<y.c;omega)⟩ ?_)
  ·rw [Vo];rfl
  rintro ⟨i,c0,a,op,out⟩ m9 ⟨hi,EP,x5,Rr⟩;simp only at hi EP x5 Rr;refine aa8 ?_;refine WP.cond rfl (fun hc=>?_) (fun hc=>?_)
  ·replace hc:i<d.length:=by have:=xS hc;simp only at this;omega
   obtain ⟨ad,rfl,hx⟩:=(Qk.bQ EP.2.1).cell i hc;obtain ⟨x,gi⟩:∃x,d[i]=x:=⟨_,rfl⟩;have PD:x.right=true:=by rw [←gi];exact Xk _ (vF _)
   have gx:=aT.1 PD;have QV:c0<x.c∨(c0=x.c∧a≤x.f):=Rr x (by rw [←gi,tI hc];exact zS ..);have NN:∀y∈d.drop (i+1),x.c<y.c∨(x.c=y.c∧x.f≤y.f):=fun y hy=>by
    obtain ⟨q,hq,rfl⟩:=xG.1 hy;rw [List.getElem_drop,←gi];rw [zZ]at hq;exact xJ.1 Gz i (i+1+q) hc J9 J9
   have kT:d.take (i+1)=d.take i++[x]:=by rw [vN hc,gi]
   rw [gi]at hx;refine ab7 ?_;refine ab0 ?_;refine RL.aJ aa (tC x) rfl rfl rfl hx rfl ?_;refine RL.alloc aa rfl rfl (fun b10 m10 Vc Oo=>⟨_,rfl,?_⟩);refine RL.bF aa (b:=b10) (i:=0) (vs:=tC x) (cs:=[.int .u64 0,.int .u64 0,.int .u64 0,.int .u64 0]) Oo.fc rfl rfl rfl rfl rfl YA Ju rfl ?_;intro m11 Ce;have Ab:Ext m9 [] m11:=(Oo.new J9).trans Ce.ext (fun q hq=>.inr (by have h9:q=b10:=J3;omega));have EF:bw m11 b10 122 (tC x):=Ce.fc;have QU:Mr m4 m11 [b10] m11 b5 b6 b7 (d.take i) c0 a op out:=by
    obtain ⟨y0,y1,S5,S6,v5,v6,g1,g2,g3,g4,g5,g6,g7,_⟩:=EP;refine ⟨y0,y1.trans Ab YA,S5,S6,v5,v6,g1.ext Ab YA,g2.ext Ab YA,g3.ext Ab YA,g4.ext Ab YA,g5.ext Ab YA,g6,g7,fun k hk=>?_⟩;have hk:k=b10:=by simpa using hk
    subst hk;have e5:=g1.lt;have e6:=g2.lt;have e7:=g3.lt;exact ⟨EF.lt,rfl,J9,J9,J9,fun hh=>by have:=g4.lt _ hh;omega,fun hh=>by have:=g5.lt _ hh;omega⟩
   clear EP Oo Ce;refine RL.N1 (YJ ?_);refine WP.cut (X:=Nat×List aK×List aK) (fun _=>[(22,.slice (some ad) d.length c'),(23,.int .i64 d.length),(24,.int .i64 i),(5,.pointer (some ⟨b5,0,none⟩)),(6,.pointer (some ⟨b6,0,none⟩)),(7,.pointer (some ⟨b7,0,none⟩)),(8,fv),(10,.pointer (some ⟨b10,0,none⟩))])
    (fun q m'=>Mr m4 m11 [b10] m' b5 b6 b7 (d.take i) c0 q.1 q.2.1 q.2.2∧q.2.2.length+q.2.1.length≤2*i+1∧(q.2.1=[]∨c0=x.c∧q.1=x.f)∧(c0<x.c∨c0=x.c∧q.1≤x.f)) ?_ ?_
   ·have HE:=QU;obtain ⟨y0,y1,S5,S6,v5,v6,g1,g2,g3,g4,g5,g6,g7,g8⟩:=QU;obtain ⟨A6,c6,rfl,_⟩:=g5.shape;refine YG ?_;refine RL.load aa rfl rfl rfl (g2.cell 0 rfl) rfl ?_;refine RL.pure aa 1 rfl ?_;rcases x4:op with _|⟨y,op2⟩
    ·subst x4;refine aa9 ?_;refine ae9 ?_;exact QN.ar (a,[],out) YC ⟨HE,by show out.length+0≤_;simp only [xE]at x5;omega,.inl rfl,QV⟩
    have Fl:=y0.opens y (by rw [x4];simp);have gy:=aT.1 Fl.1;rw [←x4];have fh:0<op.length:=by rw [x4];simp
    have PZ:Ts m11 [] (.slice A6 op.length c6) op:=g5.sl YA;obtain ⟨ad6,rfl,hz⟩:=PZ.cell 0 fh;have yc:op[0]=y:=by simp [x4]
    rw [yc]at hz;refine ac6 ?_;refine ac1 ?_;refine RL.N1 (YJ ?_);refine WP.da rfl ?_;refine YG ?_;refine ac6 ?_;refine RL.load aa rfl rfl rfl (EF.cell 1 rfl) rfl ?_;refine ab3 ?_;refine RL.N1 (QN.N1 ?_);refine WP.cut (X:=Unit) (fun _=>[(22,.slice (some ad) d.length c'),(23,.int .i64 d.length),(24,.int .i64 i),(5,.pointer (some ⟨b5,0,none⟩)),(6,.pointer (some ⟨b6,0,none⟩)),(7,.pointer (some ⟨b7,0,none⟩)),(8,fv),(10,.pointer (some ⟨b10,0,none⟩)),(11,.int .u64 (if c0=x.c then x.f else 9007199254740992:Nat))]) (fun _ m'=>m'=m11) ?_ ?_
    ·refine WP.S1 ?_;refine WP.calm ?_;refine WP.dI (fun m'=>m'=m11) [] J7 rfl ai.calm (fun hQ=>?_);refine RH.load aa hQ 0 (fun m' bm=>by rw [bm];exact g2.cell 0 rfl) rfl J7 rfl rfl rfl rfl ?_;refine RH.indexAddr aa hQ 1 (k:=0) rfl J7 rfl rfl rfl rfl rfl rfl rfl fh rfl ?_;refine RH.pure aa hQ [2] J7 rfl ?_;refine RH.load aa hQ 3 (fun m' bm=>by rw [bm];exact hz 0 _ rfl) rfl J7 rfl rfl rfl rfl ?_;refine RH.pure aa hQ [4] J7 rfl ?_;refine RH.load aa hQ 5 (fun m' bm=>by rw [bm];exact EF.cell 0 rfl) rfl J7 rfl rfl rfl rfl ?_;refine RH.pure aa hQ [6] J7 rfl ?_
     by_cases n9:c0=x.c
     ·refine RH.eqv (v':=.bool false) (xZ _ (by rw [k8];exact zV (fun hh=>hh (by rw [Fl.2.1];exact n9)))) ?_;refine RH.done J7 (fun _=>QN.calm ?_);refine QN.N1 ?_;refine ae9 ?_;rw [yS n9];exact QN.ar () (Sub.C1 rfl (Sub.C1 rfl (Sub.C1 rfl (Sub.C1 rfl (Sub.C1 rfl (Sub.C1 rfl (Sub.C1 rfl (Sub.C1 rfl (Sub.C1 rfl (Sub.nil)))))))))) rfl
     ·refine RH.eqv (v':=.bool true) (xZ _ (by rw [k8];exact zW (fun hh=>n9 (by rw [←Fl.2.1];exact hh)))) ?_;refine RH.done J7 (fun _=>QN.calm ?_);refine QN.N1 ?_;refine WP.da rfl ?_;refine ai1 ?_;rw [zX n9];exact RL.N1 (QN.ar () (Sub.C1 rfl (Sub.C1 rfl (Sub.C1 rfl (Sub.C1 rfl (Sub.C1 rfl (Sub.C1 rfl (Sub.C1 rfl (Sub.C1 rfl (Sub.C1 rfl (Sub.nil)))))))))) rfl)
    ·rintro _ mc rfl;have hu:(if c0=x.c then x.f else 9007199254740992)≤9007199254740992:=by split<;>omega
     have Tu:a≤(if c0=x.c then x.f else 9007199254740992):=by
      split
      ·rcases QV with h1|⟨_,h1⟩<;>omega
      ·have:=Fl.2.2.2;omega
     generalize WJ:(if c0=x.c then x.f else 9007199254740992)=u at hu Tu;subst Vo;refine ai1 ?_;refine af8 ?_;refine RL.load aa rfl rfl rfl (hz 0 _ rfl) rfl ?_;refine RL.eqv (v':=.int .u64 c0) (xZ (fun(q:Nat)=>Value.int .u64 q) Fl.2.1) ?_;refine ab3 ?_;refine RL.call (fi:=[]) (ca:=[.pointer (some ⟨b6,0,none⟩),.pointer (some ⟨b7,0,none⟩),.pointer (some ⟨b5,0,none⟩)]) rfl rfl rfl rfl (Dy m4 mc [b10] mc b5 b6 b7 TP (d.take i) c0 a op out u hu HE J9 Tu) ?_;rintro _ m12 ⟨a',op',out',kS,j0,Zs,wm⟩;refine aa1 ?_;refine RL.N1 ?_;refine QN.ar (a',op',out') (Sub.C1 rfl (Sub.C1 rfl (Sub.C1 rfl (Sub.C1 rfl (Sub.C1 rfl (Sub.C1 rfl (Sub.C1 rfl (Sub.C1 rfl (Sub.nil))))))))) ⟨kS,by show out'.length+op'.length≤2*i+1;omega,?_,?_⟩
     ·show op'=[]∨c0=x.c∧a'=x.f
      by_cases n9:c0=x.c
      ·rw [yS n9]at WJ;rcases j0 with h1|h1
       ·exact .inl h1
       ·exact .inr ⟨n9,J9⟩
      ·rw [zX n9]at WJ;rcases j0 with h1|h1
       ·exact .inl h1
       ·refine .inl (List.eq_nil_iff_forall_not_mem.2 fun z hz=>?_);have h2:=kS.1.opens z hz;have h3:=aT.1 h2.1;omega
     ·show c0<x.c∨c0=x.c∧a'≤x.f
      by_cases n9:c0=x.c
      ·rw [yS n9]at WJ;exact .inr ⟨n9,J9⟩
      ·rcases QV with h1|⟨h1,_⟩
       ·exact .inl h1
       ·exact absurd h1 n9
   ·rintro ⟨a',op',out'⟩ m12 ⟨kS,SC,tN,W6⟩;simp only at kS SC tN W6;obtain ⟨y0,y1,S5,S6,v5,v6,g1,g2,g3,g4,g5,g6,g7,g8⟩:=kS;obtain ⟨z1,z2,z3,z4,z5,z6,z7⟩:=g8 b10 YA;have Sb:bw m12 b10 122 (tC x):=z2.trans EF;refine YG ?_;refine RL.pure aa 1 rfl ?_;refine RL.load aa rfl rfl rfl (Sb.cell 1 rfl) rfl ?_;refine RL.store aa g3 (i:=0) (v:=.int .u64 x.f) YA rfl rfl rfl rfl rfl rfl ?_;intro m13 Bw;have h1:=g1.ej Bw J9;have h2:=g2.ej Bw J9;have h3:bw m13 b7 28 [.int .u64 x.f]:=Bw.fc;have h4:=g4.ext Bw.ext (fun k hk hh=>(g6 k hk).2.2.2.1 J4);have h5:=g5.ext Bw.ext (fun k hk hh=>(g7 k hk).2.2.2 J4);have V4:=Sb.ej Bw J9;have zf:=y1.trans Bw.ext (fun k hk=>.inr Ja);refine RL.N1 (YE ?_);refine RL.load aa rfl rfl rfl (h2.cell 0 rfl) rfl ?_;refine RL.aJ aa (tC x) rfl rfl rfl (fun j u hu=>by rw [av];exact V4.cell _ J2) rfl ?_;refine RL.dZ aa [.tmp 50] h5 (us:=[tV x]) (tC x) rfl rfl rfl rfl rfl rfl rfl rfl rfl (by simp [tV,tC,Value.cells]) (by simp [tV,Value.cells]) (oL x) Jy Jr ?_;intro v14 m14 S14 RX Bt Wt;refine ⟨_,rfl,?_⟩;have l1:=h1.lt;have l2:=h2.lt;have l3:=h3.lt;have l4:=h4.lt;have j14:∀k∈S14,m4.heap.size≤k∧k≠b5∧k≠b6∧k≠b7∧k∉S5:=fun k hk=>by
     rcases Wt k hk with h9|h9
     ·obtain ⟨q1,q2,q3,q4⟩:=g7 k h9;exact ⟨q1,q2,q3,q4,fun hh=>(g6 k hh).2.2.2.2 h9⟩
     ·have:=zf.size;exact ⟨J9,J9,J9,J9,fun hh=>by have:=l4 k hh;omega⟩
    have k1:=h1.ext Bt (fun hh=>(g7 _ hh).2.1 rfl);have k2:=h2.ext Bt (fun hh=>(g7 _ hh).2.2.1 rfl);have k3:=h3.ext Bt (fun hh=>(g7 _ hh).2.2.2 rfl);have k4:=h4.ext Bt (fun k hk hh=>(g6 k hk).2.2.2.2 hh);have Pq:=zf.trans Bt (fun k hk=>.inr (g7 k hk).1);refine RL.store aa k2 (i:=0) (v:=v14) YA rfl rfl rfl rfl RX.one rfl ?_;intro m15 Eb;have OG:=Pq.trans Eb.ext (fun k hk=>.inr (by have h9:k=b6:=(by simpa using hk);omega));refine RL.N1 (YE ?_);refine RL.pure aa 1 rfl ?_;refine RL.eqv (v':=.int .i64 ((i+1:Nat):Int)) (xZ _ Jb) ?_;refine RL.A1 aa rfl ?_;have QO:=y0.more PD tN W6;rw [←kT]at QO;refine RL.N1 (QN.round (i+1,x.c,x.f,op'++[x],out') (Sub.C1 rfl (Sub.C1 rfl (Sub.C1 rfl (Sub.C1 rfl (Sub.C1 rfl (Sub.C1 rfl (Sub.C1 rfl (Sub.nil)))))))) ⟨by show i+1≤_;omega,⟨QO,OG,S5,S14,v5,v14,k1.ej Eb J9,Eb.fc,k3.ej Eb J9,k4.ext Eb.ext (fun k hk hh=>(g6 k hk).2.2.1 J4),?_,fun k hk=>?_,fun k hk=>?_,YA⟩,?_,NN⟩ Jj)
    ·rw [zY,←ny];have:=RX.ext Eb.ext (fun k hk hh=>(j14 k hk).2.2.1 J4)
     simpa using this
    ·obtain ⟨q1,q2,q3,q4,q5⟩:=g6 k hk;exact ⟨q1,q2,q3,q4,fun hh=>(j14 k hh).2.2.2.2 hk⟩
    ·obtain ⟨q1,q2,q3,q4,_⟩:=j14 k hk;exact ⟨q1,q2,q3,q4⟩
    ·show out'.length+(op'++[x]).length≤2*(i+1);rw [zY,uW];omega
  ·replace hc:i=d.length:=by have:=vX hc;simp only at this;omega
   subst hc;rw [wF]at EP;refine WP.exit ?_;refine YF ?_;refine WP.cut (X:=Nat×List aK) (fun _=>[(5,.pointer (some ⟨b5,0,none⟩))]) (fun q m'=>Mr m4 m4 [] m' b5 b6 b7 d c0 q.1 [] q.2∧q.2.length≤2*d.length+1) ?_ ?_
   ·have HE:=EP;obtain ⟨y0,y1,S5,S6,v5,v6,g1,g2,g3,g4,g5,g6,g7,g8⟩:=EP;obtain ⟨A6,c6,rfl,_⟩:=g5.shape;refine YG ?_;refine RL.load aa rfl rfl rfl (g2.cell 0 rfl) rfl ?_;refine RL.pure aa 1 rfl ?_;rcases x4:op with _|⟨y,op2⟩
    ·subst x4;refine aa9 ?_;refine ae9 ?_;exact QN.ar (a,out) YC ⟨HE,by show out.length≤_;simp only [xE]at x5;omega⟩
    have Fl:=y0.opens y (by rw [x4];simp);have gy:=aT.1 Fl.1;rw [←x4];have fh:0<op.length:=by rw [x4];simp
    have PZ:Ts m9 [] (.slice A6 op.length c6) op:=g5.sl YA;obtain ⟨ad6,rfl,hz⟩:=PZ.cell 0 fh;have yc:op[0]=y:=by simp [x4]
    rw [yc]at hz;refine ac6 ?_;refine ac1 ?_;refine RL.N1 (YJ ?_);refine WP.da rfl ?_;subst Vo;refine ai1 ?_;refine af8 ?_;refine RL.load aa rfl rfl rfl (hz 0 _ rfl) rfl ?_;refine RL.eqv (v':=.int .u64 c0) (xZ (fun(q:Nat)=>Value.int .u64 q) Fl.2.1) ?_;refine RL.call (fi:=[]) (ca:=[.pointer (some ⟨b6,0,none⟩),.pointer (some ⟨b7,0,none⟩),.pointer (some ⟨b5,0,none⟩)]) rfl rfl rfl rfl (Dy m4 m4 [] m9 b5 b6 b7 TP d c0 a op out 9007199254740992 (yP _) HE J9 (by have:=Fl.2.2.2;omega)) ?_;rintro _ m12 ⟨a',op',out',kS,j0,Zs,wm⟩;refine aa1 ?_;have V0:op'=[]:=by
     rcases j0 with h1|h1
     ·exact h1
     ·refine List.eq_nil_iff_forall_not_mem.2 fun z hz=>?_
      have h2:=kS.1.opens z hz;have h3:=aT.1 h2.1;omega
    subst V0;simp only [xE]at wm;exact RL.N1 (QN.ar (a',out') YC ⟨kS,by show out'.length≤_;omega⟩)
   ·rintro ⟨a',out'⟩ m12 ⟨kS,wm⟩;simp only at kS wm;obtain ⟨y0,y1,S5,S6,v5,v6,g1,g2,g3,g4,g5,g6,g7,g8⟩:=kS;have U6:m12.heap[D]?=some (.deferred (some [])):=(y1.ej D HQ YA).trans LZ;obtain ⟨t1,t2⟩:=y0.done;refine YG ?_;refine RL.load aa rfl rfl rfl (g1.cell 0 rfl) rfl ?_;refine RL.A1 aa rfl ?_;refine RL.N1 (YE ?_);refine WP.ret (YI ?_);refine QN.F9 (.inl rfl) U6 (fun m' hK VH=>⟨bY.tmp rfl rfl,⟨_,rfl,out'.reverse,⟨t1,fun c k=>?_,?_⟩,S5,?_,(Hp.trans y1 YA).Dp hK UE,fun k hk=>.inr (by have:=(g6 k hk).1;have:=Hp.size;omega)⟩⟩)
    ·rw [t2,pH pk,sH]
    ·rw [xC];omega
    ·rw [xC];exact g4.kc hK
 ·rintro D c pre m' _ _ hx;exact hx.elim
theorem Wh(a b:Nat):Value.int .u64 (if(b:Int)>(a:Int)then(b:Int)else(a:Int))=.int .u64 (max a b:Nat):=xZ _ (by split<;>omega)
theorem yv(pre:List aK)(x:aK)(c k:Nat):ak (pre++[x]) c k=max (ak pre c k) (x.at c k):=by rw [cn];simp [ak]
def Nq(id:aL)(r:aK):Bool:=r.right&&(decide (r.c=id.c)&&(decide (r.f≤id.k)&&decide (id.k<r.t)))
theorem O1(id:aL)(x:aK):x.at id.c id.k=if Nq id x=true then x.n else 0:=by
 unfold aK.at Nq;simp only [wR,vY]
theorem kF(m:World)(v:Value)(l:List aK)(h:Ts m [] v l)(hl:l.length<1000000000)(id:aL):dg Tryz.prog 52 [v,iV id] m fun r m'=>r=.int .u64 (ak l id.c id.k)∧Ext m [] m':=by
 obtain ⟨A,c,rfl,_,_⟩:=h.shape;refine aP.zA Tryz.func52 ?_;refine YG ?_;refine RL.box rfl rfl (fun b m1 hb hC=>⟨_,rfl,?_⟩);have yw:bw m1 b 30 (iC id):=hC.here;have dd:Ext m [] m1:=hC.new J9;clear hC;refine RL.A1 aa rfl ?_;refine RL.N1 (YE ?_);refine RL.A1 aa rfl ?_;refine RL.N1 (YE ?_);refine RL.A1 aa rfl ?_;refine RL.N1 (YE ?_);refine (WP.loop (X:=Nat) (fun i=>[(0,.slice A l.length c),(3,.pointer (some ⟨b,0,none⟩)),(5,.int .u64 (ak (l.take i) id.c id.k)),(6,.int .i64 i)])
  (fun i m'=>i≤l.length∧Ext m1 [] m') (fun i=>l.length-i) 0
  YC ⟨YA,Ext.refl _ _⟩ ?_)
 rintro i m2 ⟨hi,bM⟩;refine aa8 ?_;refine WP.cond rfl (fun hc=>?_) (fun hc=>?_)
 ·replace hc:i<l.length:=by have:=xS hc;omega
  have pX:=yw.ext bM YA;have gz:Ext m [] m2:=dd.trans bM YA;obtain ⟨ad,rfl,_⟩:=(h.bQ gz).cell i hc;obtain ⟨x,gi⟩:∃x,l[i]=x:=⟨_,rfl⟩;have hx:∀m',Ext m2 [] m'→∀j u,(tC x)[j]?=some u→m'.cell? ((ad.add (i*4)).add j)=some u:=fun m' hE=>by
   obtain ⟨ad',h1,h2⟩:=(h.bQ (gz.trans hE YA)).cell i hc
   injection h1 with h1
   subst h1;rw [gi]at h2;exact h2
  have hI:∀m',Ext m2 [] m'→bw m' b 30 (iC id):=fun m' hE=>pX.ext hE YA
  have dF:ak (l.take (i+1)) id.c id.k=max (ak (l.take i) id.c id.k) (x.at id.c id.k):=by
   rw [vN hc,gi,yv]
  rw [O1]at dF;refine WP.skip (YJ ?_);refine WP.S1 ?_;refine WP.B1 ?_;refine WP.cut (X:=Bool) (fun q=>[(0,.slice (some ad) l.length c),(3,.pointer (some ⟨b,0,none⟩)),(5,.int .u64 (ak (l.take i) id.c id.k)),(6,.int .i64 i),(47,.bool q)]) (fun q m'=>q=Nq id x∧Ext m2 [] m') ?_ ?_
  ·refine WP.dI (fun m'=>Ext m2 [] m') [] J7 (Ext.refl _ _) JJ (fun hQ=>?_);refine ae5 ?_;refine RH.aJ aa hQ 3 (tC x) (fun m' bm=>hx m' bm) rfl J7 rfl rfl rfl rfl ?_;refine RH.only 4 rfl J7 (fun _=>?_);refine zM (oW m2 x) ?_;rintro _ m3 ⟨rfl,eN⟩;refine ⟨_,rfl,RL.N1 (RH.cont eN ?_)⟩
   by_cases h1:x.right=true
   ·refine RH.eqv (v':=.bool true) (xZ _ h1) ?_;refine RH.pure aa hQ [5,6,7] J7 rfl ?_;refine ah1 ?_;refine RH.load aa hQ 10 (fun m' bm=>hx m' bm 0 _ rfl) rfl J7 rfl rfl rfl rfl ?_;refine RH.pure aa hQ [11] J7 rfl ?_;refine RH.load aa hQ 12 (fun m' bm=>(hI m' bm).cell 0 rfl) rfl J7 rfl rfl rfl rfl ?_;refine RH.pure aa hQ [13] J7 rfl ?_
    by_cases h2:x.c=id.c
    ·refine RH.eqv (v':=.bool true) (xZ _ Jh) ?_;refine RH.pure aa hQ [14,15,16,17] J7 rfl ?_;refine RH.indexAddr aa hQ 18 (k:=i) rfl J7 rfl rfl rfl rfl rfl rfl rfl hc rfl ?_;refine RH.pure aa hQ [19] J7 rfl ?_;refine RH.load aa hQ 20 (fun m' bm=>hx m' bm 1 _ rfl) rfl J7 rfl rfl rfl rfl ?_;refine RH.pure aa hQ [21] J7 rfl ?_;refine RH.load aa hQ 22 (fun m' bm=>(hI m' bm).cell 1 rfl) rfl J7 rfl rfl rfl rfl ?_;refine RH.pure aa hQ [23] J7 rfl ?_
     by_cases h3:x.f≤id.k
     ·refine RH.eqv (v':=.bool true) (xZ _ JV) ?_;refine RH.pure aa hQ [24,25,26] J7 rfl ?_;refine RH.load aa hQ 27 (fun m' bm=>(hI m' bm).cell 1 rfl) rfl J7 rfl rfl rfl rfl ?_;refine RH.pure aa hQ [28,29] J7 rfl ?_;refine RH.indexAddr aa hQ 30 (k:=i) rfl J7 rfl rfl rfl rfl rfl rfl rfl hc rfl ?_;refine RH.pure aa hQ [31] J7 rfl ?_;refine RH.load aa hQ 32 (fun m' bm=>hx m' bm 2 _ rfl) rfl J7 rfl rfl rfl rfl ?_;refine RH.pure aa hQ [33,34] J7 rfl ?_;refine RH.done J7 (fun _=>?_);refine QN.ar (decide (id.k<x.t)) (Sub.C1 rfl (Sub.C1 rfl (Sub.C1 rfl (Sub.C1 rfl (Sub.C1 ?_ Sub.nil))))) ⟨by simp [Nq,h1,h2,h3],eN⟩;show some (Value.bool (decide ((id.k:Int)<(x.t:Int))))=_;rw [sv]
     ·refine RH.eqv (v':=.bool false) (xZ _ JU) ?_;refine RH.pure aa hQ [24,25,26,27,28,29,30,31,32,33,34] J7 rfl ?_;refine RH.done J7 (fun _=>?_);exact QN.ar false YC ⟨by simp [Nq,h1,h2,h3],eN⟩
    ·refine RH.eqv (v':=.bool false) (xZ _ Jf) ?_;refine RH.pure aa hQ [14,15,16,17,18,19,20,21,22,23,24,25,26,27,28,29,30,31,32,33,34] J7 rfl ?_;refine RH.done J7 (fun _=>?_);exact QN.ar false YC ⟨by simp [Nq,h1,h2],eN⟩
   ·refine RH.eqv (v':=.bool false) (xZ _ (vR _▸h1)) ?_;refine RH.pure aa hQ [5,6,7,8,9,10,11,12,13,14,15,16,17,18,19,20,21,22,23,24,25,26,27,28,29,30,31,32,33,34] J7 rfl ?_;refine RH.done J7 (fun _=>?_);exact QN.ar false YC ⟨by simp [Nq,h1],eN⟩
  ·rintro q m3 ⟨hq,eN⟩;have zf:=gz.trans eN YA;refine WP.cond rfl (fun hp=>?_) (fun hp=>?_)
   ·rw [hp]at hq;rw [yS hq.symm]at dF;refine YG ?_;refine ad0 ?_;refine ab0 ?_;refine ac6 ?_;refine RL.load aa rfl rfl rfl (hx m3 eN 3 _ rfl) rfl ?_;refine ac6 ?_;refine RL.eqv (v':=.int .u64 (ak (l.take (i+1)) id.c id.k)) (by rw [dF];exact Wh _ _) ?_;refine aa0 ?_;refine ag8 ?_;exact RL.N1 (QN.round (i+1) YC ⟨J9,bM.trans eN YA⟩ J9)
   ·rw [hp]at hq;rw [zX (by rw [←hq];simp),wN]at dF;refine ab7 ?_;refine ag8 ?_;refine RL.N1 (QN.round (i+1) (Sub.C1 rfl (Sub.C1 rfl (Sub.C1 ?_ YC))) ⟨J9,bM.trans eN YA⟩ J9);show some (Value.int .u64 ((ak (l.take i) id.c id.k:Nat):Int))=some (Value.int .u64 ((ak (l.take (i+1)) id.c id.k:Nat):Int));rw [dF]
 ·replace hc:i=l.length:=by have:=vX hc;omega
  subst hc;rw [wF];refine af3 ?_;exact QN.aj rfl rfl ⟨_,rfl,rfl,dd.trans bM YA⟩
def mu(l:List Nat):List Value:=l.map fun(n:Nat)=>Value.int .u64 n
theorem Oz(l:List Nat):(mu l).length=l.length:=by simp [mu]
theorem xo(l:List Nat)(i:Nat)(h:i<l.length):(mu l)[i]?=some (.int .u64 l[i]):=by simp [mu,h]
theorem F6(l:List Nat)(i n:Nat):(mu l).set i (.int .u64 n)=mu (l.set i n):=by unfold mu;rw [List.map_set]
theorem yj{l:List Nat}{i x:Nat}(hs:l.Pairwise (·<·))(hi:i≤l.length)(h1:∀j (h:j<l.length),j<i→l[j]<x)(h2:∀h:i<l.length,x<l[i]):(l.take i++x::l.drop i).Pairwise (·<·):=by
 have iE:(l.take i++l.drop i).Pairwise (·<·):=by rw [yG];exact hs
 rw [xF]at iE;obtain ⟨p1,p2,p3⟩:=iE;have f1:∀a∈l.take i,a<x:=fun a ha=>by
  obtain ⟨j,hj,rfl⟩:=xG.1 ha;rw [xH];rw [yA]at hj;exact h1 j J9 J9
 have f2:∀a∈l.drop i,x<a:=fun a ha=>by
  obtain ⟨j,hj,rfl⟩:=xG.1 ha;rw [zZ]at hj;rw [List.getElem_drop];have h3:=h2 J9;rcases xR j with rfl|Yk
  ·simpa using h3
  ·have:=xJ.1 hs i (i+j) J9 J9 J9;omega
 rw [xF];refine ⟨p1,yZ.2 ⟨f2,p2⟩,fun a ha b hb=>?_⟩;rcases yH.1 hb with rfl|hb
 ·exact f1 a ha
 ·exact p3 a ha b hb
theorem LK(l:List Nat)(w q:Nat)(h:q<l.length):(l.take (q+1)++w::l.drop (q+1)).set (q+1) l[q]=l.take q++l[q]::l.drop q:=by
 rw [tA _ _ Jq,yA,zR J9,tG,List.set_cons_zero]
 conv=>rhs;rw [tI h]
 rw [vN h,wM];rfl
theorem Lg(l:List Nat)(w x i:Nat)(h:i≤l.length):(l.take i++w::l.drop i).set i x=l.take i++x::l.drop i:=by
 rw [tA _ _ Jq,yA,zR h,tG,List.set_cons_zero]
theorem NH(l:List Nat)(w q:Nat)(h:q<l.length)(h':q<(l.take (q+1)++w::l.drop (q+1)).length):(l.take (q+1)++w::l.drop (q+1))[q]=l[q]:=by
 rw [uY J6,xH]
theorem rE(m:World)(S:List Nat)(v:Value)(l:List Nat)(x:Nat)(h:Ev.Own m S 28 1 v l.length (mu l))(hl:l.length<1000000000)(hs:l.Pairwise (·<·)):
  dg Tryz.prog 187 [v,.int .u64 x] m fun r m'=>∃L S',Ev.Own m' S' 28 1 r L.length (mu L)∧Ext m S m'∧bp m S S'∧L.Pairwise (·<·)∧(∀z,z∈L↔z∈l∨z=x)∧L.length≤l.length+1:=by
 obtain ⟨A,c,rfl,_⟩:=h.shape;have hS:Sl m [] 1 (.slice A l.length c) (mu l):=h.sl YA;refine aP.zA Tryz.func187 ?_;refine YG ?_;refine RL.A1 aa rfl ?_;refine RL.N1 (YE ?_);refine RL.A1 aa rfl ?_;refine RL.N1 (YJ ?_);refine WP.cut (X:=Nat) (fun i=>[(0,.slice A l.length c),(1,.int .u64 x),(5,.int .i64 i)]) (fun i m'=>m'=m∧i≤l.length∧(∀j (h:j<l.length),j<i→l[j]<x)∧∀h:i<l.length,x≤l[i]) ?_ ?_
 ·refine WP.B1 ?_;refine (WP.loop (X:=Nat) (fun i=>[(0,.slice A l.length c),(1,.int .u64 x),(5,.int .i64 i)])
   (fun i m'=>m'=m∧i≤l.length∧(∀j (h:j<l.length),j<i→l[j]<x)) (fun i=>l.length-i) 0
   YC ⟨rfl,YA,(fun j _ hj=>absurd hj J9)⟩ ?_)
  rintro i m1 ⟨rfl,hi,aM⟩;refine YG ?_;refine RL.pure aa 4 rfl ?_
  by_cases hc:i<l.length
  rotate_left
  ·refine ah7 ?_;refine WP.exit ?_;refine YH ?_;exact QN.ar i YC ⟨rfl,hi,aM,fun h=>absurd h hc⟩
  refine ac1 ?_;refine ad0 ?_;refine RL.index aa hS (k:=i) rfl hc rfl rfl rfl rfl (fun ad _ _ bN=>⟨_,rfl,?_⟩);have hx:=bN 0 _ (by rw [uO];exact xo l i hc);refine RL.load aa rfl rfl rfl Jo rfl ?_;refine RL.pure aa 2 rfl ?_
  by_cases Nc:l[i]<x
  rotate_left
  ·refine RL.eqv (v':=.bool false) (xZ _ (by rw [sv];exact zV Nc)) ?_;refine aa9 ?_;refine WP.bg rfl ?_;refine WP.exit ?_;refine YH ?_;exact QN.ar i YC ⟨rfl,hi,aM,fun _=>by omega⟩
  refine RL.eqv (v':=.bool true) (xZ _ (by rw [sv];exact zW Nc)) ?_;refine aa0 ?_;refine WP.da rfl ?_;refine ab7 ?_;refine ag8 ?_;refine RL.N1 ?_;refine YJ ?_;refine QN.round (i+1) YC ⟨rfl,J9,fun j hj LU=>?_⟩ J9
  by_cases PY:j=i
  ·subst PY;exact Nc
  ·exact aM j hj J9
 ·rintro i m1 ⟨rfl,hi,aM,fW⟩;refine WP.cut (X:=Unit) (fun _=>[(0,.slice A l.length c),(1,.int .u64 x),(5,.int .i64 i)]) (fun _ m'=>m'=m1∧∀h:i<l.length,x<l[i]) ?_ ?_
  ·refine YG ?_;refine RL.pure aa 4 rfl ?_
   by_cases hc:i<l.length
   rotate_left
   ·refine ac5 ?_;refine aa9 ?_;refine ae9 ?_;exact QN.ar () YC ⟨rfl,fun h=>absurd h hc⟩
   refine ac1 ?_;refine ad0 ?_;refine RL.index aa hS (k:=i) rfl hc rfl rfl rfl rfl (fun ad _ _ bN=>⟨_,rfl,?_⟩);have hx:=bN 0 _ (by rw [uO];exact xo l i hc);refine RL.load aa rfl rfl rfl Jo rfl ?_;refine RL.pure aa 2 rfl ?_
   by_cases Nc:l[i]=x
   ·refine RL.eqv (v':=.bool true) (xZ _ (by rw [AY];exact zW Nc)) ?_;refine aa9 ?_;refine WP.da rfl ?_;refine ab5 ?_;exact QN.aj rfl rfl ⟨_,rfl,l,S,h,Ext.refl _ _,bp.refl _ _,hs,(fun z=>⟨.inl,fun hz=>hz.elim id fun hz=>by rw [hz,←Nc];exact vF _⟩),J9⟩
   ·refine RL.eqv (v':=.bool false) (xZ _ (by rw [AY];exact zV Nc)) ?_;refine aa9 ?_;refine ae9 ?_;have h1:=fW hc;exact QN.ar () YC ⟨rfl,fun _=>by omega⟩
  rintro _ mc ⟨rfl,IL⟩;refine ai1 ?_;refine RL.dZ aa [.const (.int .u64 0)] h (us:=[.int .u64 0]) [.int .u64 0] rfl rfl rfl rfl rfl rfl rfl rfl rfl Jz Jz (by simp [Value.oneCell']) Jy (by show(_+1)*8≤_;omega) ?_;intro v4 m4 S4 gl eQ xx;refine aa1 ?_;obtain ⟨A4,c4,rfl,_⟩:=gl.shape;have gl:Ev.Own m4 S4 28 1 (.slice A4 (l.length+1) c4) (l.length+1) (mu (l.take l.length++0::l.drop l.length)):=by
   have e:mu l++[Value.int .u64 0]=mu (l.take l.length++0::l.drop l.length):=by simp [mu]
   rw [←e];exact gl
  refine aa0 ?_;refine ad0 ?_;refine RL.eqv (v':=.int .i64 (l.length:Int)) (xZ _ JY) ?_;refine aa0 ?_;refine (WP.loop (X:=Nat×Nat) (fun q=>[(0,.slice A4 (l.length+1) c4),(1,.int .u64 x),(5,.int .i64 i),(6,.int .i64 q.1)])
   (fun q m'=>i≤q.1∧q.1≤l.length∧Ev.Own m' S4 28 1 (.slice A4 (l.length+1) c4) (l.length+1) (mu (l.take q.1++q.2::l.drop q.1))∧Ext m4 S4 m') (fun q=>q.1) (l.length,0)
   YC ⟨hi,yP _,gl,Ext.refl _ _⟩ ?_)
  rintro ⟨k,w⟩ m5 ⟨k1,k2,gZ,ff⟩;simp only at k1 k2 gZ;have Rn:Sl m5 [] 1 (.slice A4 (l.length+1) c4) (mu (l.take k++w::l.drop k)):=gZ.sl YA;refine YG ?_;refine RL.A1 aa rfl ?_;refine RL.N1 (YE ?_);refine WP.cond rfl (fun mr=>?_) (fun mr=>?_)
  ·replace mr:i<k:=by have:=xS mr;simp only at this;omega
   obtain ⟨q,rfl⟩:∃q,k=q+1:=⟨k-1,J9⟩;refine ai6 ?_;refine RL.index aa Rn (k:=q) rfl J9 rfl rfl rfl rfl (fun ad iH _ bN=>⟨_,rfl,?_⟩);have hg:=xo (l.take (q+1)++w::l.drop (q+1)) q J6;rw [NH l w q J9]at hg;have hx:=bN 0 (.int .u64 l[q]) (by rw [uO];exact hg);refine RL.load aa rfl rfl rfl Jo rfl ?_;obtain ⟨g,cap,cur,mS,Is,WA,G0,eG⟩:=gZ.Ci (j:=q+1) J9
   injection mS with mS Fk
   subst mS;refine RL.indexAddr (k:=q+1) aa rfl rfl rfl rfl rfl rfl rfl J9 rfl ?_;refine RL.eqv (v':=.pointer (some ⟨g,q+1,none⟩)) (xZ (fun q=>Value.pointer (some q)) (by rw [av];show(⟨g,0+(q+1)*1,none⟩:Addr)=_;rw [zU,uO])) ?_;refine RL.store aa Is (i:=q+1) (v:=.int .u64 l[q]) G0 rfl rfl rfl rfl rfl rfl ?_;intro m6 jJ;have iz:=eG m6 _ jJ;rw [F6,LK l w q J9]at iz;refine RL.N1 (YE ?_);refine RL.pure aa 2 rfl ?_;refine RL.eqv (v':=.int .i64 (q:Int)) (xZ _ JY) ?_;refine RL.A1 aa rfl ?_;exact RL.N1 (QN.round (q,l[q]) YC ⟨by show i≤q;omega,by show q≤_;omega,iz,ff.trans jJ.ext (fun k hk=>.inl (by rw [WA];exact hk))⟩ (by show q<q+1;omega))
  ·replace mr:k=i:=by have:=vX mr;simp only at this;omega
   subst mr;obtain ⟨g,cap,cur,mS,Is,WA,G0,eG⟩:=gZ.Ci (j:=k) J9
   injection mS with mS Fk
   subst mS;refine ac2 ?_;refine ab3 ?_;refine RL.indexAddr (k:=k) aa rfl rfl rfl rfl rfl rfl rfl J9 rfl ?_;refine RL.eqv (v':=.pointer (some ⟨g,k,none⟩)) (xZ (fun q=>Value.pointer (some q)) (by rw [av];show(⟨g,0+k*1,none⟩:Addr)=_;rw [zU,uO])) ?_;refine RL.store aa Is (i:=k) (v:=.int .u64 x) G0 rfl rfl rfl rfl rfl rfl ?_;intro m6 jJ;have iz:=eG m6 _ jJ;rw [F6,Lg l w x k k2]at iz;have kN:(l.take k++x::l.drop k).length=l.length+1:=by simp;omega
   have oS:Ext m4 S4 m6:=ff.trans jJ.ext (fun k hk=>.inl (by rw [WA];exact hk));refine RL.N1 (YE ?_);refine RL.A1 aa rfl ?_;refine RL.N1 (YE ?_);refine WP.ret (YI ?_);refine QN.aj rfl rfl ⟨_,rfl,l.take k++x::l.drop k,S4,by rw [kN];exact iz,eQ.trans oS xx,xx,yj hs k2 aM IL,fun z=>?_,J9⟩;have:z∈l↔z∈l.take k∨z∈l.drop k:=by conv=>lhs;rw [←yG k l,yL]
   rw [yL,yH,this];constructor
   ·rintro (h|h|h)
    ·exact .inl (.inl h)
    ·exact .inr h
    ·exact .inl (.inr h)
   ·rintro ((h|h)|h)
    ·exact .inl h
    ·exact .inr (.inr h)
    ·exact .inr (.inl h)
def BB(l:List aK)(c z:Nat):Prop:=∃x∈l,x.right=true∧x.c=c∧(z=x.f∨z=x.t)
theorem tg(l:List aK)(x:aK)(c z:Nat):BB (l++[x]) c z↔BB l c z∨(x.right=true∧x.c=c∧(z=x.f∨z=x.t)):=by
 constructor
 ·rintro ⟨y,hy,h⟩;rcases yL.1 hy with hy|hy
  ·exact .inl ⟨y,hy,h⟩
  ·have:y=x:=by simpa using hy
   subst this;exact .inr h
 ·rintro (⟨y,hy,h⟩|h)
  ·exact ⟨y,yW _ hy,h⟩
  ·exact ⟨x,YA,h⟩
theorem KV(m:World)(v:Value)(l:List aK)(c:Nat)(h:Ts m [] v l)(hl:l.length<400000000):
  dg Tryz.prog 145 [v,.int .u64 c] m fun r m'=>∃L S',Ev.Own m' S' 28 1 r L.length (mu L)∧ek m S' m'∧L.Pairwise (·<·)∧(∀z,z∈L↔BB l c z)∧L.length≤2*l.length:=by
 obtain ⟨A,ca,rfl,_,_⟩:=h.shape;refine aP.zA Tryz.func145 ?_;refine af5 ?_;refine aa0 ?_;refine (WP.loop (X:=Nat×Value×List Nat×List Nat) (fun q=>[(0,.slice A l.length ca),(1,.int .u64 c),(5,q.2.1),(6,.int .i64 q.1)])
  (fun q m'=>q.1≤l.length∧Ev.Own m' q.2.2.1 28 1 q.2.1 q.2.2.2.length (mu q.2.2.2)∧ek m q.2.2.1 m'∧q.2.2.2.Pairwise (·<·)∧(∀z,z∈q.2.2.2↔BB (l.take q.1) c z)∧q.2.2.2.length≤2*q.1) (fun q=>l.length-q.1) (0,.slice none 0 0,[],[])
  YC ⟨YA,Own.empty _ _ _ _,⟨Ext.refl _ _,bp.nil _ _⟩,List.Pairwise.nil,(fun z=>⟨(fun h=>by cases h),(fun⟨y,hy,_⟩=>by simp at hy)⟩),YA⟩ ?_)
 rintro ⟨i,w,S,L⟩ m1 ⟨hi,hO,hN,hs,hm,hn⟩;simp only at hi hO hN hs hm hn;refine aa8 ?_;refine WP.cond rfl (fun hc=>?_) (fun hc=>?_)
 ·replace hc:i<l.length:=by have:=xS hc;simp only at this;omega
  obtain ⟨ad,rfl,_⟩:=h.cell i hc;obtain ⟨x,gi⟩:∃x,l[i]=x:=⟨_,rfl⟩;have hx:∀m',Ext m [] m'→∀j u,(tC x)[j]?=some u→m'.cell? ((ad.add (i*4)).add j)=some u:=fun m' hE=>by
   obtain ⟨ad',h1,h2⟩:=(h.bQ hE).cell i hc
   injection h1 with h1
   subst h1;rw [gi]at h2;exact h2
  have kT:l.take (i+1)=l.take i++[x]:=by rw [vN hc,gi]
  have yh:¬(x.right=true∧x.c=c)→∀z,z∈L↔BB (l.take (i+1)) c z:=fun hh z=>by
   rw [kT,tg,hm];exact ⟨.inl,fun h=>h.elim id fun h=>absurd ⟨h.1,h.2.1⟩ hh⟩
  refine aj2 ?_;refine ab0 ?_;refine RL.aJ aa (tC x) rfl rfl rfl (hx m1 hN.1) rfl ?_;refine zM (oW m1 x) ?_;rintro _ m2 ⟨rfl,bM⟩;refine aa1 ?_;have gJ:=hO.ext bM YA;have jr:ek m S m2:=⟨hN.1.trans bM YA,hN.2⟩
  by_cases c1:x.right=true
  rotate_left
  ·refine RL.eqv (v':=.bool false) (xZ _ (vR _▸c1)) ?_;refine aa0 ?_;refine WP.bg rfl ?_;refine ab7 ?_;refine ag8 ?_;exact RL.N1 (QN.round (i+1,w,S,L) YC ⟨by show i+1≤_;omega,gJ,jr,hs,yh (fun hh=>c1 hh.1),by show L.length≤2*(i+1);omega⟩ Jj)
  refine RL.eqv (v':=.bool true) (xZ _ c1) ?_;refine ad0 ?_;refine ab0 ?_;refine ac6 ?_;refine RL.load aa rfl rfl rfl (hx m2 jr.1 0 _ rfl) rfl ?_;refine ab8 ?_
  by_cases c2:x.c=c
  rotate_left
  ·refine RL.eqv (v':=.bool false) (xZ _ (by rw [AY];exact zV c2)) ?_;refine aa0 ?_;refine WP.bg rfl ?_;refine ab7 ?_;refine ag8 ?_;exact RL.N1 (QN.round (i+1,w,S,L) YC ⟨by show i+1≤_;omega,gJ,jr,hs,yh (fun hh=>c2 hh.2),by show L.length≤2*(i+1);omega⟩ Jj)
  refine RL.eqv (v':=.bool true) (xZ _ (by rw [AY];exact zW c2)) ?_;refine aa9 ?_;refine WP.da rfl ?_;refine WP.dI (fun m'=>Ext m [] m') [] J7 jr.1 JJ (fun hQ=>?_);refine af1 ?_;refine RH.load aa hQ 5 (fun m' bm=>hx m' bm 1 _ rfl) rfl J7 rfl rfl rfl rfl ?_;refine RH.pure aa hQ [7,8] J7 rfl ?_;refine RH.indexAddr aa hQ 9 (k:=i) rfl J7 rfl rfl rfl rfl rfl rfl rfl hc rfl ?_;refine RH.pure aa hQ [10] J7 rfl ?_;refine RH.load aa hQ 11 (fun m' bm=>hx m' bm 2 _ rfl) rfl J7 rfl rfl rfl rfl ?_;refine RH.only 6 rfl J7 (fun _=>?_);refine zM (rE m2 S w L x.f gJ J9 hs) ?_;rintro u3 m3 ⟨L3,S3,km,eN,Lh,pU,Vm,Zx⟩;have fG:ek m S3 m3:=⟨jr.1.trans eN (fun k hk=>.inr (jr.ge k hk)),jr.2.trans Lh jr.1.size⟩;refine ⟨_,rfl,RL.N1 (RH.cont fG.1 ?_)⟩;refine RH.only 12 rfl J7 (fun _=>?_);refine zM (rE m3 S3 u3 L3 x.t km J9 pU) ?_;rintro u4 m4 ⟨L4,S4,gl,eQ,xx,Kg,Zr,Xe⟩;have lX:ek m S4 m4:=⟨fG.1.trans eQ (fun k hk=>.inr (fG.ge k hk)),fG.2.trans xx fG.1.size⟩;refine ⟨_,rfl,RL.N1 (RH.cont lX.1 ?_)⟩;refine RH.pure aa hQ [13] J7 rfl ?_;refine RH.done J7 (fun _=>?_);refine YJ ?_;refine YG ?_;refine RL.pure aa 2 rfl ?_;refine RL.eqv (v':=.int .i64 ((i+1:Nat):Int)) (xZ _ Jb) ?_;refine RL.A1 aa rfl ?_;refine RL.N1 (QN.round (i+1,u4,S4,L4) YC ⟨by show i+1≤_;omega,gl,lX,Kg,fun z=>?_,by show L4.length≤2*(i+1);omega⟩ Jj);show z∈L4↔BB (l.take (i+1)) c z;rw [kT,tg,Zr,Vm,hm,or_assoc];exact ⟨fun h=>h.imp id fun h=>⟨c1,c2,h⟩,fun h=>h.imp id fun h=>h.2.2⟩
 ·replace hc:i=l.length:=by have:=vX hc;simp only at this;omega
  subst hc;rw [wF]at hm;refine af3 ?_;exact QN.aj rfl rfl ⟨_,rfl,L,S,hO,hN,hs,hm,hn⟩
theorem Ef(m:World)(v:Value)(l:List aK)(h:Ts m [] v l)(hl:l.length<400000000):
  dg Tryz.prog 144 [v] m fun r m'=>∃L S',Ev.Own m' S' 28 1 r L.length (mu L)∧ek m S' m'∧L.Pairwise (·<·)∧(∀z,z∈L↔∃x∈l,x.right=true∧x.c=z)∧L.length≤l.length:=by
 obtain ⟨A,ca,rfl,_,_⟩:=h.shape;refine aP.zA Tryz.func144 ?_;refine af5 ?_;refine aa0 ?_;refine (WP.loop (X:=Nat×Value×List Nat×List Nat) (fun q=>[(0,.slice A l.length ca),(3,q.2.1),(4,.int .i64 q.1)])
  (fun q m'=>q.1≤l.length∧Ev.Own m' q.2.2.1 28 1 q.2.1 q.2.2.2.length (mu q.2.2.2)∧ek m q.2.2.1 m'∧q.2.2.2.Pairwise (·<·)∧(∀z,z∈q.2.2.2↔∃x∈l.take q.1,x.right=true∧x.c=z)∧q.2.2.2.length≤q.1) (fun q=>l.length-q.1) (0,.slice none 0 0,[],[])
  YC ⟨YA,Own.empty _ _ _ _,⟨Ext.refl _ _,bp.nil _ _⟩,List.Pairwise.nil,(fun z=>⟨(fun h=>by cases h),(fun⟨y,hy,_⟩=>by simp at hy)⟩),YA⟩ ?_)
 rintro ⟨i,w,S,L⟩ m1 ⟨hi,hO,hN,hs,hm,hn⟩;simp only at hi hO hN hs hm hn;refine aa8 ?_;refine WP.cond rfl (fun hc=>?_) (fun hc=>?_)
 ·replace hc:i<l.length:=by have:=xS hc;simp only at this;omega
  obtain ⟨ad,rfl,_⟩:=h.cell i hc;obtain ⟨x,gi⟩:∃x,l[i]=x:=⟨_,rfl⟩;have hx:∀m',Ext m [] m'→∀j u,(tC x)[j]?=some u→m'.cell? ((ad.add (i*4)).add j)=some u:=fun m' hE=>by
   obtain ⟨ad',h1,h2⟩:=(h.bQ hE).cell i hc
   injection h1 with h1
   subst h1;rw [gi]at h2;exact h2
  have kT:l.take (i+1)=l.take i++[x]:=by rw [vN hc,gi]
  have MK:∀z,(∃y∈l.take (i+1),y.right=true∧y.c=z)↔(∃y∈l.take i,y.right=true∧y.c=z)∨(x.right=true∧x.c=z):=fun z=>by
   rw [kT];constructor
   ·rintro ⟨y,hy,h⟩;rcases yL.1 hy with hy|hy
    ·exact .inl ⟨y,hy,h⟩
    ·have:y=x:=by simpa using hy
     subst this;exact .inr h
   ·rintro (⟨y,hy,h⟩|h)
    ·exact ⟨y,yW _ hy,h⟩
    ·exact ⟨x,YA,h⟩
  refine aj2 ?_;refine ab0 ?_;refine RL.aJ aa (tC x) rfl rfl rfl (hx m1 hN.1) rfl ?_;refine zM (oW m1 x) ?_;rintro _ m2 ⟨rfl,bM⟩;refine aa1 ?_;have gJ:=hO.ext bM YA;have jr:ek m S m2:=⟨hN.1.trans bM YA,hN.2⟩;refine RL.N1 (YE ?_);refine WP.cond rfl (fun c1=>?_) (fun c1=>?_)
  ·replace c1:x.right=true:=c1
   refine YG ?_;refine ad0 ?_;refine ab0 ?_;refine ac6 ?_;refine RL.load aa rfl rfl rfl (hx m2 jr.1 0 _ rfl) rfl ?_;refine zM (rE m2 S w L x.c gJ J9 hs) ?_;rintro u3 m3 ⟨L3,S3,km,eN,Lh,pU,Vm,Zx⟩;have fG:ek m S3 m3:=⟨jr.1.trans eN (fun k hk=>.inr (jr.ge k hk)),jr.2.trans Lh jr.1.size⟩;refine ⟨_,rfl,?_⟩;refine RL.A1 aa rfl ?_;refine RL.N1 (YE ?_);refine RL.pure aa 2 rfl ?_;refine RL.eqv (v':=.int .i64 ((i+1:Nat):Int)) (xZ _ Jb) ?_;refine RL.A1 aa rfl ?_;refine RL.N1 (QN.round (i+1,u3,S3,L3) YC ⟨by show i+1≤_;omega,km,fG,pU,fun z=>?_,by show L3.length≤i+1;omega⟩ Jj);show z∈L3↔∃y∈l.take (i+1),y.right=true∧y.c=z;rw [Vm,hm,MK];exact ⟨fun h=>h.imp id fun h=>⟨c1,h.symm⟩,fun h=>h.imp id fun h=>h.2.symm⟩
  ·replace c1:¬x.right=true:=by rw [vR];exact c1
   refine ab7 ?_;refine ag8 ?_;refine RL.N1 (QN.round (i+1,w,S,L) YC ⟨by show i+1≤_;omega,gJ,jr,hs,fun z=>?_,by show L.length≤i+1;omega⟩ Jj);show z∈L↔∃y∈l.take (i+1),y.right=true∧y.c=z;rw [hm,MK];exact ⟨.inl,fun h=>h.elim id fun h=>absurd h.1 c1⟩
 ·replace hc:i=l.length:=by have:=vX hc;simp only at this;omega
  subst hc;rw [wF]at hm;refine af3 ?_;exact QN.aj rfl rfl ⟨_,rfl,L,S,hO,hN,hs,hm,hn⟩
theorem KL(m:World)(v u:Value)(a b:List aK)(h:Ts m [] v a)(h':Ts m [] u b)(hl:a.length+b.length<100000000):
  dg Tryz.prog 68 [v,u] m fun r m'=>∃L,DJ (a++b) L∧nF m r L m':=by
 obtain ⟨A,c,rfl,_,_⟩:=h.shape;obtain ⟨B,c',rfl,_,_⟩:=h'.shape;refine aP.zA Tryz.func68 ?_;refine aa8 ?_;refine ab3 ?_;refine RL.buildSlice aa [.tmp 5,.tmp 6] (us:=[.slice A a.length c,.slice B b.length c']) [.slice A a.length c,.slice B b.length c'] rfl rfl rfl rfl rfl rfl Jz rfl rfl (fun b1 m1 Ew ph=>⟨_,rfl,?_⟩);have dd:Ext m [] m1:=ph.new J9;have N6:Sl m1 [] 1 (.slice (some ⟨b1,0,none⟩) 2 2) [.slice A a.length c,.slice B b.length c']:=Sl.jF (M:=[]) (n:=2) (c:=2) (sz:=1) ph.fc YA YA J9 Jy;refine zM (zw m1 _ _ [a.flatMap tC,b.flatMap tC] [a.length,b.length] N6 rfl rfl (fun i u xs k e1 e2 e3=>?_) (fun xs hx=>?_) J6 YA) ?_
 ·match i with
  |0=>
   simp only [wZ,yJ]at e1 e2 e3;subst e1;subst e2;subst e3;exact ⟨h.bQ dd,eu a⟩
  |1=>
   simp only [uH,wZ,yJ]at e1 e2 e3;subst e1;subst e2;subst e3;exact ⟨h'.bQ dd,eu b⟩
  |i+2=>simp at e1
 ·simp only [yH,uT,uU]at hx;rcases hx with rfl|rfl
  ·exact lK a
  ·exact lK b
 rintro v2 m2 ⟨S2,gJ,jr⟩;refine aa1 ?_;have bM:=dd.trans jr.1 YA;have pL:Ts m2 [] v2 (a++b):=by
  have h9:=gJ.sl (M:=[]) YA;have e9:[a.flatMap tC,b.flatMap tC].flatten=(a++b).flatMap tC:=by simp
  rw [e9]at h9;exact h9
 refine zM (AD m2 _ _ pL Jl) ?_;rintro v3 m3 ⟨L,hL,S3,km,fG⟩;refine aa1 ?_;refine ac0 ?_;exact QN.aj rfl rfl ⟨_,rfl,L,hL,S3,km,bM.trans fG.1 YA,fG.2.trans' bM⟩
def hid(L:List aK):List aG:=(L.filter fun x=>decide (x.n%2=1)).map fun x=>⟨x.c,x.f,x.t⟩
theorem yq(L:List aK)(i:Nat)(h:i<L.length):hid (L.take (i+1))=hid (L.take i)++(if L[i].n%2=1 then[⟨L[i].c,L[i].f,L[i].t⟩]else[]):=by
 unfold hid;rw [vN h,xX,uJ]
 by_cases h1:L[i].n%2=1<;>simp [h1]
theorem iq(L:List aK):(hid L).length≤L.length:=by
 unfold hid;rw [uF];exact xD _ _
theorem G1(m:World)(v:Value)(l:List aK)(h:Ts m [] v l)(hl:l.length<100000000):
  dg Tryz.prog 70 [v] m fun r m'=>∃L,DJ l L∧Made m r (clean (hid L)) m':=by
 refine aP.zA Tryz.func70 ?_;refine af5 ?_;refine ab3 ?_;refine zM (AD m v l h J9) ?_;rintro v1 m1 ⟨L,hL,hM⟩;refine aa1 ?_;have dd:=hM.ext;have Iy:=hM.ts;have Fg:=hL.2.2;obtain ⟨A,c,rfl,_,_⟩:=Iy.shape;refine RL.A1 aa rfl ?_;refine RL.N1 (YE ?_);refine (WP.loop (X:=Nat×Value×List Nat) (fun x=>[(7,.slice A L.length c),(8,.int .i64 L.length),(3,x.2.1),(9,.int .i64 x.1)])
  (fun x m'=>x.1≤L.length∧Ev.Own m' x.2.2 167 3 x.2.1 (hid (L.take x.1)).length ((hid (L.take x.1)).flatMap rC)∧ek m1 x.2.2 m') (fun x=>L.length-x.1) (0,.slice none 0 0,[])
  YC ⟨YA,Own.empty _ _ _ _,Ext.refl _ _,bp.nil _ _⟩ ?_)
 rintro ⟨i,w,S⟩ m2 ⟨hi,hO,hN⟩;simp only at hi hO hN;refine aa8 ?_;refine WP.cond rfl (fun hc=>?_) (fun hc=>?_)
 ·replace hc:i<L.length:=by have:=xS hc;simp only at this;omega
  obtain ⟨ad,rfl,hx⟩:=(Iy.bQ hN.1).cell i hc;have gE:=yq L i hc;have x5:=iq (L.take i);rw [yA,zR hi]at x5;obtain ⟨x,gi⟩:∃x,L[i]=x:=⟨_,rfl⟩;rw [gi]at hx gE;refine WP.skip (YE ?_);refine RL.indexAddr (k:=i) aa rfl rfl rfl rfl rfl rfl rfl hc rfl ?_;refine RL.aJ aa (tC x) rfl rfl rfl hx rfl ?_;refine RL.alloc aa rfl rfl (fun b5 m3 P9 sP=>⟨_,rfl,?_⟩);refine RL.bF aa (b:=b5) (i:=0) (vs:=tC x) (cs:=[.int .u64 0,.int .u64 0,.int .u64 0,.int .u64 0]) sP.fc rfl rfl rfl rfl rfl YA Ju rfl ?_;intro m4 jf;have eQ:Ext m2 [] m4:=(sP.new J9).trans jf.ext (fun q hq=>.inr (by have h9:q=b5:=J3;omega));have mo:bw m4 b5 122 (tC x):=jf.fc;have gl:=hO.ext eQ YA;have lX:ek m1 S m4:=⟨hN.1.trans eQ YA,hN.2⟩;refine RL.N1 (YE ?_);refine RL.pure aa 1 rfl ?_;refine RL.load aa rfl rfl rfl (mo.cell 3 rfl) rfl ?_;refine RL.pure aa 1 rfl ?_;refine RL.eqv (v':=.int .u64 (x.n%2:Nat)) (xZ _ (Int.ofNat_tmod x.n 2).symm) ?_;refine RL.pure aa 1 rfl ?_;refine RL.eqv (v':=.bool (decide (x.n%2=1))) (xZ _ (AY (x.n%2) 1)) ?_;refine RL.N1 (YE ?_);refine WP.cond rfl (fun ho=>?_) (fun ho=>?_)
  ·rw [yS (xS ho)]at gE;refine YG ?_
   repeat(first|refine RL.pure aa 1 rfl ?_|refine RL.load aa rfl rfl rfl (mo.cell _ rfl) rfl ?_)
   refine RL.dZ aa [.tmp 24] gl (us:=[rV ⟨x.c,x.f,x.t⟩]) (rC ⟨x.c,x.f,x.t⟩) rfl rfl rfl rfl rfl rfl rfl rfl rfl Jt Jw (gI _) Jy Jn ?_;intro v6 m6 S6 iz oS Y3;refine aa1 ?_;have IY:ek m1 S6 m6:=⟨lX.1.trans oS (fun k hk=>.inr (lX.ge k hk)),lX.2.trans Y3 lX.1.size⟩;refine RL.A1 aa rfl ?_;refine RL.N1 (YE ?_);refine RL.pure aa 1 rfl ?_;refine RL.eqv (v':=.int .i64 ((i+1:Nat):Int)) (xZ _ Jb) ?_;refine RL.A1 aa rfl ?_;refine RL.N1 (QN.round (i+1,v6,S6) YC ⟨by show i+1≤_;omega,?_,IY⟩ Jj);show Ev.Own m6 S6 167 3 v6 (hid (L.take (i+1))).length ((hid (L.take (i+1))).flatMap rC);rw [gE,zY,←jd]
   simpa using iz
  ·rw [zX (vX ho),vI]at gE;refine ab7 ?_;refine ac6 ?_;refine aa6 ?_;refine RL.N1 (QN.round (i+1,w,S) YC ⟨by show i+1≤_;omega,?_,lX⟩ Jj);show Ev.Own m4 S 167 3 w (hid (L.take (i+1))).length ((hid (L.take (i+1))).flatMap rC);rw [gE];exact gl
 ·replace hc:i=L.length:=by have:=vX hc;simp only at this;omega
  subst hc;rw [wF]at hO;have x5:=iq L;have Mn:Rs m2 [] w (hid L):=hO.sl YA;have gz:Ext m [] m2:=dd.trans hN.1 YA;refine WP.exit (YD ?_);refine YG ?_;refine RL.A1 aa rfl ?_;refine zM (ly m2 w _ Mn J9) ?_;rintro v9 m9 ⟨S9,zb,pt⟩;refine ⟨_,rfl,?_⟩;refine RL.A1 aa rfl ?_;refine RL.N1 (YE ?_);refine WP.ret (YI ?_);exact QN.aj rfl rfl ⟨_,rfl,L,hL,S9,zb,gz.trans pt.1 YA,pt.2.trans' gz⟩
end Go.Proofs.YtgpgladbdoimdaaGreatDoor
