/- Texts that belong together. -/
import Derived.Test.YtgpgladbdoimdaaGreatDoorMLawMV4
import Derived.Lay
import Derived.LaidMore
import Derived.Stop.Joined
import Derived.Laws.CopyRow
import Derived.Lib.Overlaps
import Derived.LaidEqlPtr
namespace Go.Ev
open Go.RowKit
theorem an.ay{H:List az}:∀{L:List az},(∀A∈L,A∈H)→an H L
 |[],_=>.nil
 |A::_L,h=>.cons (h A (zS ..)) (an.ay fun B hB=>h B (zO _ hB))
theorem an.self(H:List az):an H H:=an.ay fun _ h=>h
theorem bk.self:∀(H:List az),bk H H []
 |[]=>.nil
 |_::H=>.own .head (bk.self H)
theorem an.Em(H F:List az):an (H++F) H:=an.ay fun _ h=>yW _ h
theorem an.more{H L:List az}(B:az)(h:an H L):an (B::H) L:=an.ay fun _ hA=>zO _ (h.mem hA)
section
variable{P:Program} {T:Ty} {ops:Array Oper} {Q:Exit→Act→World→Prop} {l l' rest:List Oper} {n:Nat} {e e':Env} {D:Fr} {ds:List Deferred} {m0 m:World} {M0 X:List Nat} {H H' F Pre L:List az}
 {d:Option Tmp} {x y:Operand} {t ty:TypeId} {pos:String} {aft:Array Edge} {g:Option (Nat×Bool)} {v:Value} {r:Row} {J:World→Prop} {fin:List Nat} {fuel fuel':Nat} {listed listed':Array Bool}
theorem RL.Dj(k:Nat)(hT:T.Ok P)(h:AB T ops n k e l=(e',l'))(_hl:Nat.blt l'.length l.length=true)(hk:RL P ops Q l' n e' D m):RL P ops Q l n e D m:=gU hT k e l e' l' h hk
def hY(ops:Array Oper)(L:List Bool):List Nat:=
 (List.range ops.size).filter fun i=>!L.getD i true&&((ops[i]?).map fun o=>o.after.toList.all fun e=>!Region.binds .any e||L.getD e.on false).getD false
def OQ(ops:Array Oper)(f i:Nat):Bool:=match ops[f]?with
 |some o=>o.after.toList.any fun e=>Region.binds .any e&&Nat.beq e.on i
 |none=>true
def QD(ops:Array Oper)(L:List Bool):Nat→Nat→Nat→Bool
 |0,f,i=>OQ ops f i
 |n+1,f,i=>OQ ops f i||(List.range ops.size).any fun k=>OQ ops f k&&(!L.getD k true&&QD ops L n k i)
def F1(ops:Array Oper)(fin:List Nat)(L:List Bool)(i:Nat):Bool:=fin.all fun f=>L.getD f true||QD ops L 3 f i
def zh(T:Ty)(ops:Array Oper)(fin:List Nat)(L:List Bool)(n:Nat)(e:Env):List Nat→Option (Nat×Env)
 |[]=>none
 |i::r=>match F1 ops fin L i with
  |true=>match iJ T ops n [i] e with
   |some e'=>some (i,e')
   |none=>zh T ops fin L n e r
  |false=>zh T ops fin L n e r
theorem B4{L:List Bool}{is:List Nat}{i:Nat}:zh T ops fin L n e is=some (i,e')→iJ T ops n [i] e=some e':=by
 induction is with
 |nil=>intro h;cases h
 |cons j r ih=>
  intro h;unfold zh at h
  split at h
  ·split at h
   ·rename_i e1 he;simp only [yJ,yK]at h;obtain ⟨rfl,rfl⟩:=h;exact he
   ·exact ih h
  ·exact ih h
inductive YT where
 |no
 |go (i:Nat) (is:List Nat) (e:Env)
def K9(T:Ty)(ops:Array Oper)(fin:List Nat)(n:Nat):Nat→List Bool→Env→YT
 |0,_,_=>.no
 |k+1,L,e=>match zh T ops fin L n e (hY ops L)with
  |some (i,e')=>match K9 T ops fin n k (L.set i true) e' with
   |.no=>.go i [] e'
   |.go j js e2=>.go i (j::js) e2
  |none=>.no
theorem B9{i:Nat}{is:List Nat}{e1:Env}(h1:iJ T ops n [i] e=some e1):iJ T ops n (i::is) e=iJ T ops n is e1:=by
 simp only [iJ]at h1 ⊢;cases ho:ops[i]?with
 |none=>simp [ho]at h1
 |some o=>
  simp only [ho]at h1 ⊢;cases hg:gd ops e o with
  |none=>simp [hg]at h1
  |some b=>
   simp only [hg]at h1 ⊢;cases b with
   |true=>
    simp only at h1 ⊢;cases hv:pv T e o.op with
    |none=>simp [hv]at h1
    |some v=>
     simp only [hv]at h1 ⊢;cases he:aQ n o.dst v e with
     |none=>simp [he]at h1
     |some e2=>simp only [he,yJ]at h1 ⊢;subst h1;rfl
   |false=>
    simp only at h1 ⊢;cases he:aQ n o.dst undef e with
    |none=>simp [he]at h1
    |some e2=>simp only [he,yJ]at h1 ⊢;subst h1;rfl
theorem sW:∀(k:Nat) (L:List Bool) (e:Env) (i:Nat) (is:List Nat) (e':Env),K9 T ops fin n k L e=.go i is e'→iJ T ops n (i::is) e=some e'
 |0,L,e,i,is,e',h=>by cases h
 |k+1,L,e,i,is,e',h=>by
  unfold K9 at h
  split at h
  ·rename_i j e1 hp;have h1:=B4 hp
   split at h
   ·cases h;exact h1
   ·rename_i j2 js e2 h2;cases h;rw [B9 h1];exact sW k _ e1 _ _ _ h2
  ·cases h
theorem RH.oc(k:Nat){i:Nat}{is:List Nat}(hT:T.Ok P)(hQ:ai Q)(hz:K9 T ops fin n k listed.toList e=.go i is e')(hB:(be ops&&bq ops fin listed (i::is))=true)(hf:fuel'=fuel+(i::is).length)(h:RH P ops Q J fin fuel (xb listed (i::is)) n e' D m):RH P ops Q J fin fuel' listed n e D m:=by
 subst hf;simp only [wR]at hB;exact ie hT hB.1 hQ _ listed e e' hB.2 (sW k _ _ _ _ _ hz) h
def od:Op→Bool
 |.load _ _=>true
 |_=>false
def QM:Op→Bool
 |.indexAddr _ _ _=>true
 |_=>false
def GS:Op→Bool
 |.lookup _ _ _ _=>true
 |_=>false
def gP(f:Op→Bool)(ops:Array Oper)(fin:List Nat)(L:List Bool):List Nat→Option Nat
 |[]=>none
 |i::r=>match ops[i]?with
  |some o=>match f o.op with
   |true=>match F1 ops fin L i with
    |true=>some i
    |false=>gP f ops fin L r
   |false=>gP f ops fin L r
  |none=>gP f ops fin L r
theorem RH.ld(hT:T.Ok P)(hQ:ai Q){i b j:Nat}{tb:TypeId}{cs:List Value}(_:gP od ops fin listed.toList (hY ops listed.toList)=some i)(hB:(be ops&&bq ops fin listed [i])=true)(hi:ops[i]?=some ⟨d,.load t x,ty,pos,aft,g⟩)(hg:gd ops e ⟨d,.load t x,ty,pos,aft,g⟩=some true)(hx:e.ev x=some (.pointer (some ⟨b,j,none⟩)))(ht:T.plain t=true)
  (hk:ab b tb cs∈L)(hc:cs[j]?=some v)(hp:aQ n d v e=some e')(h:RH P ops Q (JS m0 M0 X L) fin fuel (listed.setIfInBounds i true) n e' D m):RH P ops Q (JS m0 M0 X L) fin (fuel+1) listed n e D m:=
 RH.iU hT hQ i hi hB hg hx ht hk hc hp h
theorem RH.TD(hT:T.Ok P)(hQ:ai Q){i b j k:Nat}{tb:TypeId}{cs vs:List Value}(_:gP od ops fin listed.toList (hY ops listed.toList)=some i)(hB:(be ops&&bq ops fin listed [i])=true)(hi:ops[i]?=some ⟨d,.load t x,ty,pos,aft,g⟩)(hg:gd ops e ⟨d,.load t x,ty,pos,aft,g⟩=some true)(hx:e.ev x=some (.pointer (some ⟨b,j,none⟩)))(ht:T.jB t=some k)
  (hk:ab b tb cs∈L)(hv:(cs.drop j).take k=vs)(hl:vs.length=k)(hp:aQ n d (.agg vs.toArray) e=some e')(h:RH P ops Q (JS m0 M0 X L) fin fuel (listed.setIfInBounds i true) n e' D m):RH P ops Q (JS m0 M0 X L) fin (fuel+1) listed n e D m:=
 RH.ry hT hQ i hi hB hg hx ht hk hv hl hp h
theorem WP.Mb{id:Nat}(fin:List Nat)(hS:Tr m0 M0 X m H)(hm:P.follows .mixedOrders=true)(h:RH P l.toArray Q (JS m0 M0 X H) fin l.length (Array.replicate l.length false) n e D m):WP P (.region id l.toArray true) Q n e D m:=
 WP.draw (JS m0 M0 X H) fin hm ⟨H,hS,an.self H⟩ h
theorem RH.iN{i:Nat}{f:FuncId}{fo:Operand}{xs:Array Operand}{ts:Array TypeId}{fi ca:List Value}{vs al:List Value}{Post:Value→List az→Prop}(hS:Tr m0 M0 X m H)(hc:bu P f al Pre Post)(_:hY ops listed.toList=[i])(hr:Region.ready .any ops listed=[i])(hi:ops[i]?=some ⟨d,.call ⟨.value fo,xs,ts⟩,ty,pos,aft,g⟩)
  (hg:gd ops e ⟨d,.call ⟨.value fo,xs,ts⟩,ty,pos,aft,g⟩=some true)
  (nk:e.ev fo=some (.func (.func f) fi.toArray ca.toArray))(fI:e.kj xs.toList=some vs)(has:fi++vs++ca=al)(hs:bk Pre H F)
  (h:∀v m' H',Post v H'→Tr m0 M0 X m' (H'++F)→an (H'++F) L∧∃e',aQ n d v e=some e'∧RH P ops Q (JS m0 M0 X L) fin fuel (listed.setIfInBounds i true) n e' D m'):RH P ops Q (JS m0 M0 X L) fin (fuel+1) listed n e D m:=
 RH.only i hi (by simpa using hr) fun _=>RL.dr hS hc hg nk fI has hs fun v m' H' h1 h2=>by
  obtain ⟨hA,e',hp,hk⟩:=h v m' H' h1 h2;exact ⟨e',hp,RL.N1 (RH.aD h2 hA hk)⟩
theorem RH.stop(hr:(Region.ready .any ops listed).isEmpty=true)(h:QN Q .normal n e D m):RH P ops Q J fin fuel listed n e D m:=RH.done hr fun _=>h
end
abbrev ee(P:Program)(f:FuncId)(args:List Value)(Pre:List az)(u:Value):Prop:=bu P f args Pre fun v H=>v=u∧H=[]
section
variable{P:Program} {T:Ty} {ops:Array Oper} {Q:Exit→Act→World→Prop} {l l' rest:List Oper} {n:Nat} {e e':Env} {D:Fr} {ds:List Deferred} {m0 m:World} {M0 X:List Nat} {H H' F Pre L:List az}
 {d:Option Tmp} {x y:Operand} {t ty:TypeId} {pos:String} {aft:Array Edge} {g:Option (Nat×Bool)} {u:Value} {r:Row} {J:World→Prop} {fin:List Nat} {fuel fuel':Nat} {listed listed':Array Bool}
theorem RL.bU{f:FuncId}{fo:Operand}{xs:Array Operand}{ts:Array TypeId}{fi ca:List Value}{vs al:List Value}(hS:Tr m0 M0 X m H)(hc:ee P f al Pre u)
  (hg:gd ops e ⟨d,.call ⟨.value fo,xs,ts⟩,ty,pos,aft,g⟩=some true)
  (nk:e.ev fo=some (.func (.func f) fi.toArray ca.toArray))(fI:e.kj xs.toList=some vs)(has:fi++vs++ca=al)(hs:bk Pre H H)(hp:aQ n d u e=some e')
  (h:∀m',Tr m0 M0 X m' H→RL P ops Q rest n e' D m'):RL P ops Q (⟨d,.call ⟨.value fo,xs,ts⟩,ty,pos,aft,g⟩::rest) n e D m:=
 RL.dr hS hc hg nk fI has hs fun v m' H' h1 h2=>by
  obtain ⟨rfl,rfl⟩:=h1;exact ⟨e',hp,h m' h2⟩
theorem RH.bU{i:Nat}{f:FuncId}{fo:Operand}{xs:Array Operand}{ts:Array TypeId}{fi ca:List Value}{vs al:List Value}(hS:Tr m0 M0 X m H)(hc:ee P f al Pre u)(_:hY ops listed.toList=[i])(hr:Region.ready .any ops listed=[i])(hi:ops[i]?=some ⟨d,.call ⟨.value fo,xs,ts⟩,ty,pos,aft,g⟩)
  (hg:gd ops e ⟨d,.call ⟨.value fo,xs,ts⟩,ty,pos,aft,g⟩=some true)
  (nk:e.ev fo=some (.func (.func f) fi.toArray ca.toArray))(fI:e.kj xs.toList=some vs)(has:fi++vs++ca=al)(hs:bk Pre H H)(hL:an H L)(hp:aQ n d u e=some e')
  (h:∀m',Tr m0 M0 X m' H→RH P ops Q (JS m0 M0 X L) fin fuel (listed.setIfInBounds i true) n e' D m'):RH P ops Q (JS m0 M0 X L) fin (fuel+1) listed n e D m:=
 RH.iN hS hc ‹_› hr hi hg nk fI has hs fun v m' H' h1 h2=>by
  obtain ⟨rfl,rfl⟩:=h1;exact ⟨hL,e',hp,h m' h2⟩
def Qw:Op→Bool
 |.store _ _ _=>true
 |.mapUpdate _ _ _ _=>true
 |.call ⟨.builtin .append,_,_⟩=>true
 |.call ⟨.builtin .copy,_,_⟩=>true
 |.call ⟨.builtin .delete,_,_⟩=>true
 |.call ⟨.builtin .clear,_,_⟩=>true
 |_=>false
def Q7(l:List Oper):List Nat:=(List.range l.length).filter fun i=>match l[i]?with
 |some o=>Qw o.op
 |none=>false
theorem WP.nM{id:Nat}(L:List az)(hS:Tr m0 M0 X m H)(hL:an H L)(_hf:Q7 l=fin)(hm:P.follows .mixedOrders=true)(h:RH P l.toArray (Ev.calm Q) (JS m0 M0 X L) fin l.length (Array.replicate l.length false) n e D m):WP P (.region id l.toArray true) Q n e D m:=WP.calm (WP.draw (JS m0 M0 X L) fin hm ⟨H,hS,hL⟩ h)
theorem RH.one{i:Nat}{o:Oper}(_:hY ops listed.toList=[i])(hr:Region.ready .any ops listed=[i])(hi:ops[i]?=some o)(h:RL P ops (Exit.then (iK D.ro P ops Q J fin i fuel (listed.setIfInBounds i true)) Q) [o] n e D m):RH P ops Q J fin (fuel+1) listed n e D m:=RH.only i hi (by simpa using hr) fun _=>h
theorem WP.fk{id:Nat}(hS:Tr m0 M0 X m H)(_hf:Q7 l=fin)(hm:P.follows .mixedOrders=true)(h:RH P l.toArray (Ev.calm Q) (JS m0 M0 X H) fin l.length (Array.replicate l.length false) n e D m):WP P (.region id l.toArray true) Q n e D m:=WP.calm (WP.Mb fin hS hm h)
end
def vz(S:List Nat)(Pr:List az→Prop):az where
 own:=S
 P:=fun m M=>∃L,Pr L∧au L=S∧∀A∈L,A.P m M
 lt:=fun⟨L,_,h,hA⟩ k hk=>by
  subst h;obtain ⟨A,hm,hk⟩:=ll.1 hk;exact A.lt (hA A hm) k hk
 dC:=fun⟨L,h0,h,hA⟩ hE hn hN hM=>⟨L,h0,h,fun A hm=>A.dC (hA A hm) hE (fun k hk=>hn k (h▸ll.2 ⟨A,hm,hk⟩)) hN hM⟩
section
variable{m0 m:World} {M0 X:List Nat} {H L:List az} {S:List Nat} {Pr Pr':List az→Prop}
theorem Tr.open(h:Tr m0 M0 X m (vz S Pr::H)):∃L,Pr L∧Tr m0 M0 X m (L++H):=by
 obtain ⟨L,h1,h2,h3⟩:(vz S Pr).P m (au (vz S Pr::H)++X):=h.head;have e:au (vz S Pr::H)=au (L++H):=by rw [aS,cq,h2];rfl
 exact ⟨L,h1,⟨fun A hA=>by
  rw [←e];rcases yL.1 hA with hA|hA
  ·exact h3 A hA
  ·exact h.hold.all A (zO _ hA),e▸h.hold.nd,e▸h.hold.out⟩,h.ext,e▸h.fp,h.CX,h.mx⟩
theorem Tr.close(h:Tr m0 M0 X m (L++H))(hp:Pr L):Tr m0 M0 X m (vz (au L) Pr::H):=by
 have e:au (vz (au L) Pr::H)=au (L++H):=by rw [aS,cq];rfl
 exact ⟨⟨fun A hA=>by
  rw [e];rcases yH.1 hA with rfl|hA
  ·exact ⟨L,hp,rfl,fun B hB=>h.hold.all B (yW _ hB)⟩
  ·exact h.hold.all A (yX _ hA),e▸h.hold.nd,e▸h.hold.out⟩,h.ext,e▸h.fp,h.CX,h.mx⟩
end
section
variable{P:Program} {T:Ty} {ops:Array Oper} {Q:Exit→Act→World→Prop} {l l' rest:List Oper} {n:Nat} {e e':Env} {D:Fr} {ds:List Deferred} {m0 m:World} {M0 X:List Nat} {H H' F Pre L:List az}
 {d:Option Tmp} {x y:Operand} {t ty te:TypeId} {pos:String} {aft:Array Edge} {g:Option (Nat×Bool)} {v:Value} {r rt:Row} {J:World→Prop} {fin:List Nat} {fuel fuel':Nat} {listed listed':Array Bool} {ad:Addr} {j sz nn n' c cap:Nat} {xs:List Value} {S:List Nat} {α:Type}
theorem Tr.aW(h:Tr m0 M0 X m H)(hm:aF S t sz v nn xs∈H):Sl m [] sz v xs:=Own.sl (show Own m S t sz v nn xs from h.mem hm) YA
theorem Tr.bE(h:Tr m0 M0 X m H)(hm:bW sz v xs∈H):Sl m [] sz v xs:=by
 have h1:Sl m (au H++X) sz v xs∧0<sz:=h.mem hm;exact h1.1.less YA h1.2
theorem Tr.dG(h:Tr m0 M0 X m H)(hm:aF S t sz v nn xs∈H)(hn:0<nn):∃g c,v=.slice (some ⟨g,0,none⟩) nn c∧S=[g]∧nn≤c∧c≤maxLen:=by
 obtain ⟨g,cap,cur,h1,h2,h3,h4,h5,h6,h7⟩:=Own.at_ (show Own m S t sz v nn xs from h.mem hm) hn;exact ⟨g,cap,h1,h7,h3,h4⟩
theorem Sl.kA(hR:Sl m [] sz (.slice (some ad) nn c) xs)(hc:xs[j]?=some v)(_hsz:0<sz):m.cell? (ad.add j)=some v:=by
 have hl:=hR.len;have hj:=(yV.1 hc).1;have hn:0<nn:=by
  rcases xR nn with h|h
  ·subst h;omega
  ·exact h
 obtain ⟨a,ha,_,h2⟩:=hR.addr hn;cases ha;exact h2 j v hc
theorem RL.GX(hT:T.Ok P)(hR:Sl m [] sz (.slice (some ad) nn c) xs)(hc:xs[j*sz]?=some v)(cz:r.size=sz)(fh:Nat.blt 0 sz=true)(hg:gd ops e ⟨d,.load t x,ty,pos,aft,g⟩=some true)(hx:e.ev x=some (.pointer (some (ad.add (j*r.size)))))(ht:T.plain t=true)
  (hp:aQ n d v e=some e')(h:RL P ops Q rest n e' D m):RL P ops Q (⟨d,.load t x,ty,pos,aft,g⟩::rest) n e D m:=by
 subst cz;exact RL.load hT hg hx ht (hR.kA hc (by simpa using fh)) hp h
theorem jx(enc:α→List Value)(hl:∀a,(enc a).length=sz):∀(L:List α) (j:Nat) (a:α),L[j]?=some a→∀i,i<sz→(L.flatMap enc)[j*sz+i]?=(enc a)[i]?
 |[],j,a,h,i,hi=>by simp at h
 |b::L,0,a,h,i,hi=>by
  simp only [wZ,yJ]at h;subst h;rw [vH,Nat.zero_mul,zU,vJ (by rw [hl];exact hi)]
 |b::L,j+1,a,h,i,hi=>by
  have ih:=jx enc hl L j a J5 i hi;rw [vH,vM (by rw [hl,xQ];omega),hl,←ih]
  congr 1
  rw [xQ];omega
theorem Sl.Rh(enc:α→List Value)(hl:∀a,(enc a).length=sz){L:List α}{a:α}(hR:Sl m [] sz (.slice (some ad) nn c) (L.flatMap enc))(hj:L[j]?=some a):∀i u,(enc a)[i]?=some u→m.cell? ((ad.add (j*sz)).add i)=some u:=by
 intro i u hu;have hi:=(yV.1 hu).1;rw [hl]at hi;rw [add_add];exact hR.kA (by rw [jx enc hl L j a hj i hi,hu]) J9
theorem RL.o8(hT:T.Ok P)(enc:α→List Value)(hl:∀a,(enc a).length=sz){L:List α}{a:α}(hR:Sl m [] sz (.slice (some ad) nn c) (L.flatMap enc))(hj:L[j]?=some a)(cz:r.size=sz)(hg:gd ops e ⟨d,.load t x,ty,pos,aft,g⟩=some true)(hx:e.ev x=some (.pointer (some (ad.add (j*r.size)))))(ht:T.jB t=some sz)
  (hp:aQ n d (.agg (enc a).toArray) e=some e')(h:RL P ops Q rest n e' D m):RL P ops Q (⟨d,.load t x,ty,pos,aft,g⟩::rest) n e D m:=by
 subst cz;exact RL.aJ hT (enc a) hg hx (by rw [hl];exact ht) (hR.Rh enc hl hj) hp h
theorem RH.GX(hT:T.Ok P)(hQ:ai Q){i:Nat}(hR:∀m',J m'→Sl m' [] sz (.slice (some ad) nn c) xs)(hc:xs[j*sz]?=some v)(cz:r.size=sz)(fh:Nat.blt 0 sz=true)(_:gP od ops fin listed.toList (hY ops listed.toList)=some i)(hB:(be ops&&bq ops fin listed [i])=true)(hi:ops[i]?=some ⟨d,.load t x,ty,pos,aft,g⟩)(hg:gd ops e ⟨d,.load t x,ty,pos,aft,g⟩=some true)(hx:e.ev x=some (.pointer (some (ad.add (j*r.size)))))(ht:T.plain t=true)
  (hp:aQ n d v e=some e')(h:RH P ops Q J fin fuel (listed.setIfInBounds i true) n e' D m):RH P ops Q J fin (fuel+1) listed n e D m:=by
 subst cz;exact RH.load hT hQ i (fun m' bm=>(hR m' bm).kA hc (by simpa using fh)) hi hB hg hx ht hp h
theorem RH.o8(hT:T.Ok P)(hQ:ai Q){i:Nat}(enc:α→List Value)(hl:∀a,(enc a).length=sz){L:List α}{a:α}(hR:∀m',J m'→Sl m' [] sz (.slice (some ad) nn c) (L.flatMap enc))(hj:L[j]?=some a)(cz:r.size=sz)(_:gP od ops fin listed.toList (hY ops listed.toList)=some i)(hB:(be ops&&bq ops fin listed [i])=true)(hi:ops[i]?=some ⟨d,.load t x,ty,pos,aft,g⟩)(hg:gd ops e ⟨d,.load t x,ty,pos,aft,g⟩=some true)(hx:e.ev x=some (.pointer (some (ad.add (j*r.size)))))(ht:T.jB t=some sz)
  (hp:aQ n d (.agg (enc a).toArray) e=some e')(h:RH P ops Q J fin fuel (listed.setIfInBounds i true) n e' D m):RH P ops Q J fin (fuel+1) listed n e D m:=by
 subst cz;exact RH.aJ hT hQ i (enc a) (fun m' bm=>(hR m' bm).Rh enc hl hj) hi hB hg hx (by rw [hl];exact ht) hp h
theorem RH.ix(hT:T.Ok P)(hQ:ai Q){i:Nat}{len k:Nat}{z:Int}{kk:IntKind}(_:gP QM ops fin listed.toList (hY ops listed.toList)=some i)(hB:(be ops&&bq ops fin listed [i])=true)
  (hi:ops[i]?=some ⟨d,.indexAddr t x y,ty,pos,aft,g⟩)(dD:T.row t=some rt)(hk:rt.k=.kb te)(hr:T.row te=some r)
  (hg:gd ops e ⟨d,.indexAddr t x y,ty,pos,aft,g⟩=some true)(hx:e.ev x=some (.slice (some ad) len cap))(hy:e.ev y=some (.int kk z))(hj:z=(k:Int))(aM:k<len)
  (hp:aQ n d (.pointer (some (ad.add (k*r.size)))) e=some e')(h:RH P ops Q J fin fuel (listed.setIfInBounds i true) n e' D m):RH P ops Q J fin (fuel+1) listed n e D m:=
 RH.indexAddr hT hQ i hi hB dD hk hr hg hx hy hj aM hp h
theorem JS.aW(hm:aF S t sz v nn xs∈L):∀m',JS m0 M0 X L m'→Sl m' [] sz v xs:=fun _ ⟨_,hS,hL⟩=>hS.aW (hL.mem hm)
theorem JS.bE(hm:bW sz v xs∈L):∀m',JS m0 M0 X L m'→Sl m' [] sz v xs:=fun _ ⟨_,hS,hL⟩=>hS.bE (hL.mem hm)
end
def AV{X:Type}(E:X→Env)(J:X→World→Prop)(n:Nat)(D:Fr)(id:Nat)(Q:Exit→Act→World→Prop):Exit→Act→World→Prop
 |.exit i,a,w=>if i=id then∃x m,Fits n (E x) D a∧bS m w∧J x m else Q (.exit i) a w
 |ex,a,w=>Q ex a w
theorem WP.eo{X:Type}{P:Program}{Q:Exit→Act→World→Prop}{c:Code}{n:Nat}{e:Env}{D:Fr}{m:World}(E:X→Env)(I J:X→World→Prop)(μ:X→Nat)(x0:X)(id:Nat)(hs:Sub (E x0) e)(h0:I x0 m)
  (round:∀x m,I x m→WP P c (Exit.then (C6 E I μ n D x) (AV E J n D id Q)) n (E x) D m)(hx:∀x m,J x m→QN Q (.exit id) n (E x) D m):WP P (.loop c) Q n e D m:=fun a w hf hw=>
 wpIn_mono (WP.loop E I μ x0 hs h0 round a w hf hw) fun ex a1 w1 hq=>by
  cases ex with
  |exit i=>
   simp only [AV]at hq
   split at hq
   ·rename_i hi;subst hi;obtain ⟨x,m1,h1,h2,h3⟩:=hq;exact hx x m1 h3 a1 w1 h1 h2
   ·exact hq
  |normal=>exact hq
  |ret=>exact hq
  |goto t=>exact hq
  |panic ch=>exact hq
  |outgrown=>exact hq
theorem QN.du{X:Type}{Q:Exit→Act→World→Prop}{n:Nat}{e:Env}{D:Fr}{m:World}{E:X→Env}{J:X→World→Prop}{id:Nat}(x:X)(hs:Sub (E x) e)(h:J x m):QN (AV E J n D id Q) (.exit id) n e D m:=fun a w hf hw=>by
 simp only [AV,yT];exact ⟨x,m,hf.sub hs,hw,h⟩
theorem RL.tail{X:Type}{P:Program}{ops:Array Oper}{Q1:Exit→Act→World→Prop}{l:List Oper}{n:Nat}{e:Env}{D:Fr}{m:World}(E:X→Env)(I:X→World→Prop){K1:Act→World→Prop}(tail:∀x m,I x m→QN Q1 .normal n (E x) D m)
  (main:(∀x m e,Sub (E x) e→I x m→QN Q1 .normal n e D m)→RL P ops (Exit.then K1 Q1) l n e D m):RL P ops (Exit.then K1 Q1) l n e D m:=main fun x m _ hs h=>(tail x m h).sub hs
structure Hid(q:Prop):Prop where
 out:q
theorem go{p q:Prop}(h:q)(t:Hid q→p:=by
 intro hZ
 repeat(first
  |refine RL.nj eS rfl rfl ?_
  |refine RL.Dj 1 eS rfl rfl ?_
  |refine RL.iU aa hS rfl rfl rfl JI YB YB ?_
  |refine RL.Tg aa hS rfl rfl rfl JI YB YB YB ?_
  |refine RH.oc 60 eS ai.calm rfl J7 rfl ?_
  |refine RH.oc 1 eS ai.calm rfl J7 rfl ?_
  |refine RH.ld aa ai.calm rfl J7 rfl rfl rfl rfl JI YB YB ?_
  |refine RH.TD aa ai.calm rfl J7 rfl rfl rfl rfl JI YB YB YB ?_
  |refine RL.indexAddr aa rfl rfl rfl rfl rfl rfl rfl J9 rfl ?_
  |refine RH.ix aa ai.calm rfl J7 rfl rfl rfl rfl rfl rfl rfl rfl J9 rfl ?_
  |(refine RL.N1 (YJ ?_))
  |(refine RH.stop YB (QN.calm ?_);refine YJ ?_)
  |with_reducible refine WP.S1 ?_|with_reducible refine WP.B1 ?_|with_reducible refine WP.R1 ?_|with_reducible refine WP.fk hS rfl J7 ?_
  |(refine WP.skip (YJ ?_))|refine WP.da rfl ?_|refine WP.bg rfl ?_
  |(refine WP.ret (YI ?_))
  |with_reducible refine QN.B1 ?_|with_reducible refine QN.N1 ?_)
 exact hZ.out):p:=t ⟨h⟩
theorem LL(l:List UInt8)(k:Nat)(h:k<l.length):(str l)[k]?=some l[k]:=by
 have h1:k<(str l).size:=by show k<l.toArray.size;simpa using h
 rw [getElem?_pos (str l) k h1]
 congr 1
theorem bV(l:List UInt8):(str l).size=l.length:=by show l.toArray.size=_;simp
theorem kC(l:List UInt8)(a b:Nat):(str l).extract a b=str ((l.take b).drop a):=by
 apply ByteArray.ext;rw [ByteArray.data_extract];show l.toArray.extract a b=((l.take b).drop a).toArray;apply xO;rw [Array.toList_extract,List.extract_eq_take_drop];simp [List.drop_take]
theorem G8(l:List UInt8):(str l).data.toList=l:=by show l.toArray.toList=l;simp
section
variable{P:Program} {T:Ty} {ops:Array Oper} {Q:Exit→Act→World→Prop} {rest:List Oper} {n:Nat} {e e':Env} {D:Fr} {m0 m:World} {M0 X:List Nat} {H:List az}
 {d:Option Tmp} {x y z:Operand} {t ty tx:TypeId} {pos:String} {aft:Array Edge} {g:Option (Nat×Bool)} {v:Value}
theorem isStr(hT:T.Ok P)(ht:(T.row t).map (·.k)=some .str):P.underlying t=some .string:=by
 obtain ⟨r,hr,hk⟩:=xN.1 ht;have:=(hT.row hr).k;rw [hk]at this;exact this
theorem RL.Hm(hT:T.Ok P){l:List UInt8}{k:Nat}{j:Int}{kk:IntKind}(ht:(T.row t).map (·.k)=some .str)(hg:gd ops e ⟨d,.index t x y,ty,pos,aft,g⟩=some true)(hx:e.ev x=some (.string (str l)))(hy:e.ev y=some (.int kk j))(hj:j=(k:Int))(aM:k<l.length)
  (hp:aQ n d (.int .u8 (l[k]).toNat) e=some e')(h:RL P ops Q rest n e' D m):RL P ops Q (⟨d,.index t x y,ty,pos,aft,g⟩::rest) n e D m:=by
 subst hj;refine RL.value _ hg (fun a w hf _=>?_) hp h;simp [execOp,hf.ev hx,hf.ev hy,Instr.index,asIntOf,run_underlying (isStr hT ht),LL l k aM]
theorem RL.Ls(hT:T.Ok P){l:List UInt8}{k:Nat}{j:Int}{kk:IntKind}(ht:(T.row t).map (·.k)=some .str)(hg:gd ops e ⟨d,.slice t x (some y) none none,ty,pos,aft,g⟩=some true)(hx:e.ev x=some (.string (str l)))(hy:e.ev y=some (.int kk j))(hj:j=(k:Int))(hle:k≤l.length)
  (hp:aQ n d (.string (str (l.drop k))) e=some e')(h:RL P ops Q rest n e' D m):RL P ops Q (⟨d,.slice t x (some y) none none,ty,pos,aft,g⟩::rest) n e D m:=by
 subst hj;refine RL.value _ hg (fun a w hf _=>?_) hp h;have h1:(str l).extract k (str l).size=str (l.drop k):=by rw [kC,bV];simp
 simp [execOp,hf.ev hx,hf.ev hy,Instr.sliceAt,Instr.slice,Instr.sliceBounds,Instr.sliceBound,asIntOf,run_underlying (isStr hT ht),bV,hle];rw [←h1,bV]
end
end Go.Ev
namespace Go.Proofs.YtgpgladbdoimdaaGreatDoor
open Go.RowKit Go.Ev
theorem It(k:Int)(n:Nat)(hn:0<n):(if k.tmod n<0 then k.tmod n+n else k.tmod n)=k%(n:Int):=by
 have h1:=Int.tmod_eq_emod (a:=k) (b:=n);have h2:=Int.emod_nonneg k (b:=(n:Int)) J9;have h3:=Int.emod_lt_of_pos k (b:=(n:Int)) J9;rw [h1]
 split<;>split<;>omega
theorem KE(m:World)(k:Int)(n:Nat)(hn:n<1000000000):
  dg Tryz.prog 13 [.int .i64 k,.int .i64 ((n+1:Nat):Int)] m fun r m'=>r=.int .i64 (k%((n+1:Nat):Int))∧m'=m:=by
 have h1:=It k (n+1) J9;have h2:=Int.emod_nonneg k (b:=((n+1:Nat):Int)) J9;have h3:=Int.emod_lt_of_pos k (b:=((n+1:Nat):Int)) J9;refine aP.zA Tryz.func13 ?_;refine YG ?_;refine RL.A1 aa rfl ?_;refine RL.N1 (YE ?_);refine RL.A1 aa rfl ?_;refine RL.N1 (YE ?_);refine RL.A1 aa rfl ?_;refine RL.N1 (YE ?_);refine WP.cond rfl (fun hc=>?_) (fun hc=>?_)
 ·have hc:k.tmod ((n+1:Nat):Int)<0:=xS hc;rw [yS hc]at h1;refine WP.R1 ?_;refine RL.pure aa 3 rfl ?_;refine RL.eqv (v':=.int .i64 (k%((n+1:Nat):Int))) (xZ _ (by rw [h1,ag _ J9 J9])) ?_;refine RL.A1 aa rfl ?_;refine RL.N1 (YE ?_);refine RL.A1 aa rfl ?_;refine RL.N1 (YE ?_);refine WP.ret (YI ?_);exact QN.aj rfl rfl ⟨_,rfl,rfl,rfl⟩
 ·have hc:¬k.tmod ((n+1:Nat):Int)<0:=vX hc;rw [zX hc]at h1;refine WP.skip (YE ?_);refine RL.A1 aa rfl ?_;refine RL.N1 (YE ?_);refine WP.ret (YI ?_);exact QN.aj rfl rfl ⟨_,rfl,xZ _ h1,rfl⟩
theorem NY(a b:List UInt8):((str a).toList==(str b).toList)=decide (a=b):=by
 rw [qW,qW]
 by_cases h:a=b<;>simp [h]
theorem Ec(m:World)(k:Nat)(hk:k<1000000000):
  dg Tryz.prog 178 [.slice none 0 0,.int .i64 k] m fun r m'=>∃S',Ev.Own m' S' 122 4 r 0 []∧ek m S' m':=by
 refine aP.zA Tryz.func178 ?_;refine af5 ?_;refine WP.cond rfl (fun hc=>absurd (xS hc) J9) (fun _=>?_);refine ab7 ?_;refine RL.pure aa 7 rfl ?_;refine RL.eqv (v':=.int .i64 k) (xZ _ JE) ?_;refine RL.sub (e':=[(14,.int .i64 k),(0,.slice none 0 0)]) YC ?_;refine aa0 ?_;refine aa0 ?_;refine WP.cond rfl (fun hc=>?_) (fun hc=>?_)
 ·have hc:0<k:=by have:=xS hc;omega
  refine ai1 ?_;refine RL.sliceTo (l:=0) aa rfl rfl rfl rfl rfl (yP _) rfl ?_;refine ab3 ?_;refine RL.rQ aa rfl rfl rfl rfl rfl rfl hc Jy (by show k*32≤_;omega) ?_;intro cap cur m1 hB h1 h2 h3 hE;refine aa1 ?_;refine ab3 ?_;refine RL.sliceTo (l:=0) aa rfl rfl rfl rfl rfl (yI _) rfl ?_;refine aa0 ?_;refine ac0 ?_;exact QN.aj rfl rfl ⟨_,rfl,_,Own.RZ hB h2 h3,hE,fun q hq=>.inr (by have h9:q=m.heap.size:=J3;omega)⟩
 ·refine ab7 ?_;refine ac0 ?_;exact QN.aj rfl rfl ⟨_,rfl,[],Own.empty _ _ _ _,Ext.refl _ _,bp.nil _ _⟩
theorem zw(m:World)(v:Value)(vs:List Value)(xss:List (List Value))(ns:List Nat)(hv:Sl m [] 1 v vs)(sI:vs.length=xss.length)(zy:ns.length=xss.length)
  (hs:∀(i:Nat) (u:Value) (xs:List Value) (k:Nat),vs[i]?=some u→xss[i]?=some xs→ns[i]?=some k→Sl m [] 4 u xs∧xs.length=k*4)(h1:∀xs∈xss,∀u∈xs,u.oneCell'=true)(E7:ns.sum<1000000000)(hlen:vs.length<1000000000):
  dg Tryz.prog 129 [v] m fun r m'=>∃S',Ev.Own m' S' 122 4 r ns.sum xss.flatten∧ek m S' m':=by
 obtain ⟨A,c,rfl,TG,_⟩:=hv.shape (n:=vs.length) YA J9;have vy:∀j,(ns.take j).sum≤ns.sum:=fun j=>by
  have:=xZ List.sum (yG j ns);rw [List.sum_append]at this;omega
 have bo:∀j (h:j<ns.length),(ns.take (j+1)).sum=(ns.take j).sum+ns[j]:=fun j h=>by rw [vN h,List.sum_append];simp
 have Gh:∀j (h:j<xss.length),(xss.take (j+1)).flatten=(xss.take j).flatten++xss[j]:=fun j h=>by rw [vN h,List.flatten_append];simp
 refine aP.zA Tryz.func129 ?_;refine af5 ?_;refine aa0 ?_;refine (WP.loop (X:=Nat) (fun i=>[(0,.slice A vs.length c),(9,.slice A vs.length c),(10,.int .i64 vs.length),(3,.int .i64 (ns.take i).sum),(11,.int .i64 i)]) (fun i m'=>i≤vs.length∧m'=m) (fun i=>vs.length-i) 0
  YC ⟨YA,rfl⟩ ?_)
 rintro i m1 ⟨hi,rfl⟩;refine aa8 ?_;refine WP.cond rfl (fun hc=>?_) (fun hc=>?_)
 ·have hc:i<vs.length:=by have:=xS hc;omega
  obtain ⟨hS,hk⟩:=hs i vs[i] xss[i] ns[i] (xW _) (xW _) (xW _);obtain ⟨A1,c1,he,_,_⟩:=hS.shape hk J9;have hle:ns[i]≤ns.sum:=by have:=bo i J9;have:=vy (i+1);omega
  have Pc:=vy i;refine WP.skip (YE ?_);refine RL.index aa hv (k:=i) rfl hc rfl rfl rfl rfl (fun ad _ _ bN=>⟨_,rfl,?_⟩);have hx:=bN 0 vs[i] YA;refine RL.load aa rfl rfl rfl Jo rfl ?_;refine RL.eqv he ?_;refine RL.A1 aa rfl ?_;refine RL.N1 (YE ?_);refine RL.pure aa 3 rfl ?_;refine RL.pure aa 1 rfl ?_;refine RL.eqv (v':=.int .i64 (ns.take (i+1)).sum) (xZ _ JF) ?_;have Wg:=vy (i+1);refine RL.A1 aa rfl ?_;refine RL.N1 (YE ?_);refine RL.A1 aa rfl ?_;refine RL.N1 (YE ?_);refine WP.bg (by exact xZ (fun q=>some (Value.bool q)) (zV J9)) ?_;refine WP.skip (YE ?_);refine RL.A1 aa rfl ?_;refine RL.N1 (QN.round (i+1) (Sub.C1 rfl (Sub.C1 rfl (Sub.C1 rfl (Sub.C1 rfl (Sub.C1 ?_ Sub.nil))))) ⟨J9,rfl⟩ J9);show some (Value.int .i64 (IntKind.i64.wrap ((i:Int)+1)))=some (Value.int .i64 ((i+1:Nat):Int));rw [ag _ J9 J9];rfl
 ·have hc:i=vs.length:=by have:=vX hc;omega
  subst hc;refine ac2 ?_;have e0:ns.take vs.length=ns:=by rw [sI,←zy,wF]
  rw [e0];refine ab3 ?_;refine zM (Ec m1 ns.sum E7) ?_;rintro r m2 ⟨S2,gJ,jr⟩;refine ai2 ?_;refine aa0 ?_;refine (WP.loop (X:=Nat×Value×List Nat) (fun x=>[(25,.slice A vs.length c),(26,.int .i64 vs.length),(6,x.2.1),(27,.int .i64 x.1)])
   (fun x m'=>x.1≤vs.length∧Ev.Own m' x.2.2 122 4 x.2.1 (ns.take x.1).sum (xss.take x.1).flatten∧ek m1 x.2.2 m') (fun x=>vs.length-x.1) (0,r,S2)
   YC ⟨YA,by simpa using gJ,jr⟩ ?_)
  rintro ⟨i,u,S3⟩ m3 ⟨hi,km,fG⟩;simp only at hi km fG;refine aa8 ?_;refine WP.cond rfl (fun hc=>?_) (fun hc=>?_)
  ·have hc:i<vs.length:=by have:=xS hc;omega
   obtain ⟨hS,hk⟩:=hs i vs[i] xss[i] ns[i] (xW _) (xW _) (xW _);obtain ⟨A1,c1,he,_,_⟩:=hS.shape hk J9;have hle:=bo i J9;have Pc:=vy (i+1);have Rz:=hv.ext (M':=[]) fG.1 YA J9;have Rc:=hS.ext (M':=[]) fG.1 YA J9;refine WP.skip (YE ?_);refine RL.index aa Rz (k:=i) rfl hc rfl rfl rfl rfl (fun ad _ _ bN=>⟨_,rfl,?_⟩);have hx:=bN 0 vs[i] YA;refine RL.load aa rfl rfl rfl Jo rfl ?_;rw [he]at Rc;refine RL.eqv he ?_;refine RL.A1 aa rfl ?_;refine RL.N1 (YE ?_);refine RL.A1 aa rfl ?_;refine RL.append aa km _ (Src.cS Rc) rfl rfl rfl rfl rfl hk (h1 _ (vF _)) Jy (by show(_+_)*32≤_;omega) ?_;intro u4 m4 S4 gl eQ xx;refine ⟨_,rfl,?_⟩;refine RL.A1 aa rfl ?_;refine RL.N1 (YE ?_);refine RL.A1 aa rfl ?_;rw [←hle,←Gh i J9]at gl;have lX:ek m1 S4 m4:=⟨fG.1.trans eQ (fun k hk=>.inr (fG.ge k hk)),fG.2.trans xx fG.1.size⟩;refine RL.N1 (QN.round (i+1,u4,S4) (Sub.C1 rfl (Sub.C1 rfl (Sub.C1 rfl (Sub.C1 ?_ Sub.nil)))) ⟨by show i+1≤_;omega,gl,lX⟩ Jj);show some (Value.int .i64 (IntKind.i64.wrap ((i:Int)+1)))=some (Value.int .i64 ((i+1:Nat):Int));rw [ag _ J9 J9];rfl
  ·have hc:i=vs.length:=by have:=vX hc;omega
   subst hc;refine ac2 ?_;have e1:ns.take vs.length=ns:=by rw [sI,←zy,wF]
   have e2:xss.take vs.length=xss:=by rw [sI,wF]
   rw [e1,e2]at km;refine ac0 ?_;exact QN.aj rfl rfl ⟨_,rfl,S3,km,fG⟩
end Go.Proofs.YtgpgladbdoimdaaGreatDoor
namespace Go.Ids
open Go.Ev
def E9(most:Nat)(s:List UInt8×Int):Nat×List UInt8×Int:=gR 0 s.2 s.1 (VY most 0 0 s.1)
def L9(p:Bool)(s:List UInt8×Int):List UInt8×Int:=if s.2=0∧p=true then(s.1,11)else s
def Ee(last more:Nat):Bool:=decide (more=0∨9007199254740991-last<more)
def Qr:Nat→Nat→List bB→List UInt8×Int→List bB×List UInt8×Int
 |0,_,out,s=>(out,s)
 |n+1,last,out,s=>
  if s.2=0 then
   let r1:=E9 18446744073709551615 s;let s1:=L9 (Ee last r1.1) r1.2;let r2:=E9 9007199254740991 s1;let s2:=L9 (decide (r2.1=0)) r2.2;let last':=(last+r1.1)%18446744073709551616
   Qr n last' (out++[⟨last',r2.1⟩]) s2
  else(out,s)
def vrd(s:List UInt8×Int):List bB×List UInt8×Int:=
 let r:=Qr (E9 16384 s).1 0 [] (E9 16384 s).2
 (if r.2.2=0 then r.1 else[],r.2)
structure ZX where
 kind:Int
 c:Nat
 n:Nat
 room:List UInt8
 vec:List bB
 turns:List aK
 b:List UInt8
abbrev St:=List UInt8×Int
def rZ(s:St):UInt8×St:=gR 0 s.2 s.1 (Nw s.1)
def Mi(most:Nat)(s:St):List UInt8×St:=gR [] s.2 s.1 (OP most s.1)
def RE(a b c d:Nat)(s:St):aK×St:=
 let r1:=E9 a s;let r2:=E9 b r1.2;let r3:=E9 c r2.2;let r4:=E9 d r3.2
 (⟨r1.1,r2.1,r3.1,r4.1⟩,r4.2)
def RP:Nat→List aK→St→Option (List aK×St)
 |0,out,s=>some (out,s)
 |n+1,out,s=>
  let r:=RE 9007199254740991 9007199254740991 9007199254740992 9007199254740991 s
  if r.2.2=0 then RP n (out++[r.1]) r.2 else none
def XG(s:St):Option (ZX×St):=
 let k:=rZ s;let K:Int:=k.1.toNat
 if K=1∨K=2 then
  let c:=if K=1 then E9 9007199254740991 k.2 else(0,k.2)
  let r:=if K=1 then Mi 32 c.2 else([],c.2)
  let v:=vrd r.2;let n:=E9 16384 v.2
  match RP n.1 [] n.2 with
  |none=>none
  |some t=>some (⟨K,c.1,0,r.1,v.1,t.1,[]⟩,t.2)
 else if K=3 then
  let n:=E9 9007199254740991 k.2;let b:=Mi 1048576 n.2
  some (⟨K,0,n.1,[],[],[],b.1⟩,b.2)
 else if K=4∨K=6 then
  let n:=E9 9007199254740991 k.2
  some (⟨K,0,n.1,[],[],[],[]⟩,n.2)
 else if K=5 then
  let b:=Mi 1048576 k.2
  some (⟨K,0,0,[],[],[],b.1⟩,b.2)
 else some (⟨K,0,0,[],[],[],[]⟩,k.2)
end Go.Ids
namespace Go.Proofs.YtgpgladbdoimdaaGreatDoor
open Go.Ids Go.SeqP
deriving instance DecidableEq for aL
instance:Inhabited aL:=⟨⟨0,0⟩⟩
structure Un where
 id:aL
 l:aL
 r:aL
 deriving Inhabited,DecidableEq
theorem Hr{x y:aL}:x=y↔x.c=y.c∧x.k=y.k:=by
 cases x;cases y;simp
theorem aL.lt_irrefl(x:aL):x.lt x=false:=by simp [aL.lt]
theorem aL.lt_trans{x y z:aL}(h1:x.lt y=true)(h2:y.lt z=true):x.lt z=true:=by
 simp only [aL.lt,wS,wR,vY]at*;omega
theorem aL.Hc{x y:aL}(h:x≠y):x.lt y=true∨y.lt x=true:=by
 simp only [aL.lt,wS,wR,vY];have:¬(x.c=y.c∧x.k=y.k):=fun hh=>h (Hr.2 hh)
 omega
theorem aL.mV{x:aL}(h:x.right=true):x≠⟨0,0⟩:=by
 rintro rfl;simp [aL.right,num]at h
open Fo
theorem np{x p:Nat}:∀{k:Nat} {f:Fo} {up:List Nat},p≠x→p∈f.flat→Fo.path up (Fo.put x k f) p=Fo.path up f p
 |0,f,up,hp,_=>by simp [Fo.put,Fo.path,yM hp,Fo.flat]
 |k+1,.nil,up,hp,h=>by simp [Fo.flat]at h
 |k+1,.cons i l r n,up,hp,h=>by
  simp only [Fo.flat,yL,yH]at h;simp only [Fo.put,Fo.path]
  split
  ·rfl
  ·rename_i hi
   split
   ·rfl
   ·rename_i hl
    split
    ·rfl
    ·rename_i hr;refine np hp ?_;rcases h with h|h|h|h
     ·exact absurd h hl
     ·exact absurd h.symm hi
     ·exact absurd h hr
     ·exact h
theorem p6{x y:Nat}(hy:y≠x):∀{k:Nat} {f:Fo},y∈(Fo.put x k f).flat↔y∈f.flat
 |0,f=>by simp [Fo.put,Fo.flat,hy]
 |k+1,.nil=>by simp [Fo.put,Fo.flat,hy]
 |k+1,.cons i l r n=>by simp [Fo.put,Fo.flat,p6 hy (k:=k) (f:=n)]
theorem mw{x t k y:Nat}(hy:y≠x):∀{f:Fo},(y∈(atR t (Fo.put x k) f).flat↔y∈f.flat)∧(y∈(jK t (Fo.put x k) f).flat↔y∈f.flat)
 |.nil=>by simp [atR,jK]
 |.cons i l r n=>by
  have h1:=mw (t:=t) (k:=k) hy (f:=l);have h2:=mw (t:=t) (k:=k) hy (f:=r);have h3:=mw (t:=t) (k:=k) hy (f:=n);unfold atR jK
  split
  ·simp [Fo.flat,p6 hy]
  ·simp [Fo.flat,h1.1,h2.1,h3.1,h1.2,h2.2,h3.2]
theorem na{x t k p:Nat}(hp:p≠x):∀{f:Fo} {up:List Nat},p∈f.flat→Fo.path up (atR t (Fo.put x k) f) p=Fo.path up f p
 |.nil,_,h=>by simp [Fo.flat]at h
 |.cons i l r n,up,h=>by
  simp only [Fo.flat,yL,yH]at h;have m1:=(mw (t:=t) (k:=k) hp (f:=l)).1;have m2:=(mw (t:=t) (k:=k) hp (f:=r)).1;have hq:p∈(Fo.put x k r).flat↔p∈r.flat:=p6 hp;unfold atR
  split
  ·simp only [Fo.path,hq]
   split
   ·rfl
   ·split
    ·rfl
    ·split
     ·rename_i hr;exact np hp hr
     ·rfl
  ·simp only [Fo.path,m1,m2]
   split
   ·rfl
   ·rename_i hi
    split
    ·rename_i hl;exact na hp hl
    ·rename_i hl
     split
     ·rename_i hr;exact na hp hr
     ·rename_i hr;refine na hp ?_;rcases h with h|h|h|h
      ·exact absurd h hl
      ·exact absurd h.symm hi
      ·exact absurd h hr
      ·exact h
theorem nw{x t k p:Nat}(hp:p≠x):∀{f:Fo} {up:List Nat},p∈f.flat→Fo.path up (jK t (Fo.put x k) f) p=Fo.path up f p
 |.nil,_,h=>by simp [Fo.flat]at h
 |.cons i l r n,up,h=>by
  simp only [Fo.flat,yL,yH]at h;have m1:=(mw (t:=t) (k:=k) hp (f:=l)).2;have m2:=(mw (t:=t) (k:=k) hp (f:=r)).2;have hq:p∈(Fo.put x k l).flat↔p∈l.flat:=p6 hp;unfold jK
  split
  ·simp only [Fo.path,hq]
   split
   ·rfl
   ·split
    ·rename_i hr;exact np hp hr
    ·rfl
  ·simp only [Fo.path,m1,m2]
   split
   ·rfl
   ·rename_i hi
    split
    ·rename_i hl;exact nw hp hl
    ·rename_i hl
     split
     ·rename_i hr;exact nw hp hr
     ·rename_i hr;refine nw hp ?_;rcases h with h|h|h|h
      ·exact absurd h hl
      ·exact absurd h.symm hi
      ·exact absurd h hr
      ·exact h
def db:Fo→Nat→Fo×Fo
 |.nil,_=>(.nil,.nil)
 |.cons i l r n,p=>if i=p then(l,r)else if p∈l.flat then db l p else if p∈r.flat then db r p else db n p
theorem At.db{p:Nat}{q:Option Nat}{s:Bool}{a b:Fo}:∀{f:Fo} {pa:Option Nat} {sd:Bool},At f pa sd p q s a b→f.flat.Nodup→Proofs.YtgpgladbdoimdaaGreatDoor.db f p=(a,b)
 |.nil,_,_,h,_=>h.elim
 |.cons i l r n,pa,sd,h,nd=>by
  obtain ⟨n1,n2,n3,i1,i2,i3,d1,d2⟩:=fK nd;rcases h with⟨rfl,_,_,rfl,rfl⟩|h|h|h
  ·simp [Proofs.YtgpgladbdoimdaaGreatDoor.db]
  ·have hm:=h.mem.1;have hi:¬i=p:=fun hh=>i1 (hh▸hm)
   simp only [Proofs.YtgpgladbdoimdaaGreatDoor.db,zX hi,yS hm];exact At.db h n1
  ·have hm:=h.mem.1;have hi:¬i=p:=fun hh=>i2 (hh▸hm)
   have hl:p∉l.flat:=fun hh=>(d1 p hh).1 hm
   simp only [Proofs.YtgpgladbdoimdaaGreatDoor.db,zX hi,zX hl,yS hm];exact At.db h n2
  ·have hm:=h.mem.1;have hi:¬i=p:=fun hh=>i3 (hh▸hm)
   have hl:p∉l.flat:=fun hh=>(d1 p hh).2 hm
   have hr:p∉r.flat:=fun hh=>d2 p hh hm
   simp only [Proofs.YtgpgladbdoimdaaGreatDoor.db,zX hi,zX hl,zX hr];exact At.db h n3
structure Grown(F F':Fo)(x:Nat)(pa:Option Nat)(sd:Bool)(k:Nat)(up:List Nat)(pl:Nat):Prop where
 flat:F'.flat=aB pl x F.flat
 le:pl≤F.flat.length
 roots:F'.roots=if pa=none then aB k x F.roots else F.roots
 new:At F' none false x pa sd .nil .nil
 dC:∀p∈F.flat,Fo.path [] F' p=Fo.path [] F p
 old:∀{i p s a' b'},At F' none false i p s a' b'→(i=x∧p=pa∧a'=.nil∧b'=.nil)∨(i≠x∧∃a b,At F none false i p s a b∧
  a'.roots=(if pa=some i∧sd=true then aB k x a.roots else a.roots)∧b'.roots=(if pa=some i∧sd=false then aB k x b.roots else b.roots)∧a'.sz+b'.sz=a.sz+b.sz+(if i∈up then 1 else 0))
theorem qz(x:Nat):∀(k:Nat) (f:Fo),(put x k f).sz=f.sz+1
 |0,f=>by simp [put,sz,Fo.flat]
 |k+1,.nil=>by simp [put,sz,Fo.flat]
 |k+1,.cons i l r n=>by
  have:=qz x k n;simp only [put,sz,Fo.flat,zY,yF]at this ⊢;omega
theorem rh{x t k:Nat}:∀{f:Fo},f.flat.Nodup→(atR t (put x k) f).sz=f.sz+(if t∈f.flat then 1 else 0)∧(jK t (put x k) f).sz=f.sz+(if t∈f.flat then 1 else 0)
 |.nil,_=>by simp [atR,jK,sz,Fo.flat]
 |.cons i l r n,nd=>by
  obtain ⟨n1,n2,n3,i1,i2,i3,d1,d2⟩:=fK nd;obtain ⟨a1,a2⟩:=rh (x:=x) (t:=t) (k:=k) n1;obtain ⟨b1,b2⟩:=rh (x:=x) (t:=t) (k:=k) n2;obtain ⟨c1,c2⟩:=rh (x:=x) (t:=t) (k:=k) n3;have p1:=qz x k l;have p2:=qz x k r;unfold atR jK;simp only [sz]at*
  by_cases hi:i=t
  ·subst hi;simp only [yT,Fo.flat,zY,yF,yL,yH,true_or,or_true];omega
  ·have hG:¬t=i:=fun hh=>hi hh.symm
   simp only [zX hi,Fo.flat,zY,yF,yL,yH,hG,false_or]
   by_cases h1:t∈l.flat
   ·have h2:=(d1 t h1).1;have h3:=(d1 t h1).2;simp only [h1,h2,h3,yT,wE,true_or]at*;omega
   ·by_cases h2:t∈r.flat
    ·have h3:=d2 t h2;simp only [h1,h2,h3,yT,wE,true_or,false_or]at*;omega
    ·simp only [h1,h2,wE,false_or]at*
     by_cases h3:t∈n.flat<;>simp only [h3,yT,wE]at*<;>omega
theorem At.SL{p:Nat}{q:Option Nat}{s:Bool}{a b f:Fo}{pa:Option Nat}{sd:Bool}(h:At f pa sd p q s a b)(nd:f.flat.Nodup):∀t∈a.flat,t∉b.flat:=by
 obtain ⟨u,v,e,_⟩:=h.split nd;rw [e]at nd;have h1:=(yN.1 (yN.1 nd).2.1).2.2;exact fun t ht hb=>h1 t ht t (by simp [hb]) rfl
theorem At.qp(x:Nat):∀(k:Nat) (f:Fo) (pa:Option Nat) (sd:Bool),At (put x k f) pa sd x pa sd .nil .nil
 |0,_f,_,_=>.inl ⟨rfl,rfl,rfl,rfl,rfl⟩
 |_k+1,.nil,_,_=>.inl ⟨rfl,rfl,rfl,rfl,rfl⟩
 |k+1,.cons _i _l _r n,pa,sd=>.inr (.inr (.inr (At.qp x k n pa sd)))
theorem At.rG{x t k:Nat}:∀{f:Fo} (pa:Option Nat) (sd:Bool),t∈f.flat→f.flat.Nodup→At (atR t (put x k) f) pa sd x (some t) false .nil .nil∧At (jK t (put x k) f) pa sd x (some t) true .nil .nil
 |.nil,_,_,h,_=>by simp [Fo.flat]at h
 |.cons i l r n,pa,sd,h,nd=>by
  obtain ⟨n1,n2,n3,i1,i2,i3,d1,d2⟩:=fK nd;unfold atR jK
  by_cases hi:i=t
  ·subst hi;rw [yS rfl,yS rfl];exact ⟨.inr (.inr (.inl (At.qp ..))),.inr (.inl (At.qp ..))⟩
  ·rw [zX hi,zX hi];simp only [Fo.flat,yL,yH]at h;rcases h with h|h|h|h
   ·obtain ⟨h1,h2⟩:=At.rG (x:=x) (k:=k) (some i) true h n1;exact ⟨.inr (.inl h1),.inr (.inl h2)⟩
   ·exact absurd h.symm hi
   ·obtain ⟨h1,h2⟩:=At.rG (x:=x) (k:=k) (some i) false h n2;exact ⟨.inr (.inr (.inl h1)),.inr (.inr (.inl h2))⟩
   ·obtain ⟨h1,h2⟩:=At.rG (x:=x) (k:=k) pa sd h n3;exact ⟨.inr (.inr (.inr h1)),.inr (.inr (.inr h2))⟩
theorem BM{F:Fo}{x k:Nat}(hx:x∉F.flat)(hk:k≤F.roots.length):Grown F (put x k F) x none false k [] (Fo.pre k F)where
 flat:=nr x k F hk
 le:=Fo.kY k F
 roots:=by rw [yS rfl];exact lC x k F hk
 new:=At.qp x k F none false
 dC:=fun p hp=>np (fun hh=>hx (hh▸hp)) hp
 old:=fun{i p s a' b'} h=>by
  rcases At.wg h with⟨rfl,rfl,_,rfl,rfl⟩|h
  ·exact .inl ⟨rfl,rfl,rfl,rfl⟩
  ·exact .inr ⟨fun hh=>hx (hh▸h.mem.1),a',b',h,YA,YA,YA⟩
theorem Bp{F a b:Fo}{x k t pl:Nat}{q:Option Nat}{s:Bool}(nd:F.flat.Nodup)(hx:x∉F.flat)(h:At F none false t q s a b)(hk:k≤a.roots.length)(hp:F.flat[pl]?=some t):Grown F (jK t (put x k) F) x (some t) true k (Fo.path [] F t) (pl-(a.sz-Fo.pre k a)):=by
 obtain ⟨u,v,e,hg⟩:=h.split nd;have hle:=Fo.kY k a;have A0:pl=u.length+a.sz:=by
  rw [e]at hp nd;have:(u++(a.flat++t::(b.flat++v)))[u.length+a.sz]?=some t:=by
   rw [vM J9,vM (by simp [Fo.sz])];simp [Fo.sz]
  exact (vZ (yV.1 hp).1 nd).1 (hp.trans this.symm)
 have hr:pl-(a.sz-Fo.pre k a)=u.length+Fo.pre k a:=by omega
 rw [hr];refine ⟨?_,?_,?_,(At.rG none false h.mem.1 nd).2,fun p hp=>nw (p:=p) (x:=x) (fun hh=>hx (hh▸hp)) hp,fun{i p s' a' b'} h'=>?_⟩
 ·rw [(hg _).1,e,nr x k a hk,eO,sh _ _ _ _ hle]
 ·rw [e,zY,zY];simp only [Fo.sz]at hle;omega
 ·simp [lM]
 ·rcases At.wq h' nd hx h.mem.1 with⟨rfl,rfl,_,rfl,rfl⟩|⟨rfl,c,h1,rfl⟩|⟨h1,h2,c,d,h3,rfl,rfl⟩
  ·exact .inl ⟨rfl,rfl,rfl,rfl⟩
  ·obtain ⟨_,_,rfl,rfl⟩:=h1.uniq h nd;refine .inr ⟨fun hh=>hx (hh▸h.mem.1),_,_,h1,by simp [lC x k _ hk],YA,?_⟩;have:=(h.gO (up:=[]) nd YA h.mem.1).2 (.inl rfl);rw [yS this,qz];omega
  ·refine .inr ⟨h2,c,d,h3,by simp [lM,yM h1],by simp [lM],?_⟩;have h4:=h3.gO (up:=[]) nd YA h.mem.1;obtain ⟨nc,ndd,_,_⟩:=h3.nd nd;rw [(rh nc).2,(rh ndd).2]
   by_cases hc:t∈c.flat
   ·rw [yS hc,zX (At.SL h3 nd t hc),yS (h4.2 (.inr (.inl hc)))];omega
   ·by_cases hd:t∈d.flat
    ·rw [zX hc,yS hd,yS (h4.2 (.inr (.inr hd)))];omega
    ·rw [zX hc,zX hd,zX (fun hh=>by rcases h4.1 hh with hh|hh|hh<;>simp_all)];omega
theorem yu{F a b:Fo}{x k t pl:Nat}{q:Option Nat}{s:Bool}(nd:F.flat.Nodup)(hx:x∉F.flat)(h:At F none false t q s a b)(hk:k≤b.roots.length)(hp:F.flat[pl]?=some t):Grown F (atR t (put x k) F) x (some t) false k (Fo.path [] F t) (pl+1+Fo.pre k b):=by
 obtain ⟨u,v,e,hg⟩:=h.split nd;have hle:=Fo.kY k b;have A0:pl=u.length+a.sz:=by
  rw [e]at hp nd;have:(u++(a.flat++t::(b.flat++v)))[u.length+a.sz]?=some t:=by
   rw [vM J9,vM (by simp [Fo.sz])];simp [Fo.sz]
  exact (vZ (yV.1 hp).1 nd).1 (hp.trans this.symm)
 refine ⟨?_,?_,?_,(At.rG none false h.mem.1 nd).1,fun p hp=>na (p:=p) (x:=x) (fun hh=>hx (hh▸hp)) hp,fun{i p s' a' b'} h'=>?_⟩
 ·have e2:u++(a.flat++t::(b.flat++v))=(u++(a.flat++[t]))++(b.flat++v):=by simp
  have e3:u++(a.flat++t::((put x k b).flat++v))=(u++(a.flat++[t]))++((put x k b).flat++v):=by simp
  have hl:(u++(a.flat++[t])).length=pl+1:=by simp [A0,Fo.sz];omega
  rw [(hg _).2,e,e3,e2,nr x k b hk,←hl,eO,sh _ _ _ _ hle]
 ·rw [e,zY,zY,yF,zY];simp only [Fo.sz]at hle A0;omega
 ·simp [lQ]
 ·rcases At.u7 h' nd hx h.mem.1 with⟨rfl,rfl,_,rfl,rfl⟩|⟨rfl,c,h1,rfl⟩|⟨h1,h2,c,d,h3,rfl,rfl⟩
  ·exact .inl ⟨rfl,rfl,rfl,rfl⟩
  ·obtain ⟨_,_,rfl,rfl⟩:=h1.uniq h nd;refine .inr ⟨fun hh=>hx (hh▸h.mem.1),_,_,h1,YA,by simp [lC x k _ hk],?_⟩;have:=(h.gO (up:=[]) nd YA h.mem.1).2 (.inl rfl);rw [yS this,qz];omega
  ·refine .inr ⟨h2,c,d,h3,by simp [lQ],by simp [lQ,yM h1],?_⟩;have h4:=h3.gO (up:=[]) nd YA h.mem.1;obtain ⟨nc,ndd,_,_⟩:=h3.nd nd;rw [(rh nc).1,(rh ndd).1]
   by_cases hc:t∈c.flat
   ·rw [yS hc,zX (At.SL h3 nd t hc),yS (h4.2 (.inr (.inl hc)))];omega
   ·by_cases hd:t∈d.flat
    ·rw [zX hc,yS hd,yS (h4.2 (.inr (.inr hd)))];omega
    ·rw [zX hc,zX hd,zX (fun hh=>by rcases h4.1 hh with hh|hh|hh<;>simp_all)];omega
structure Us where
 us:List Un
 F:Fo
end Go.Proofs.YtgpgladbdoimdaaGreatDoor
namespace Go.Proofs.YtgpgladbdoimdaaGreatDoor.Us
open Go.Ids Go.SeqP
def u(q:Us)(i:Nat):Un:=q.us.getD i default
def ax(q:Us):List Un:=q.F.flat.map q.u
def idx(q:Us)(id:aL):Option Nat:=q.us.findIdx? fun u=>decide (u.id=id)
def place(q:Us)(i:Nat):Nat:=q.F.flat.idxOf i
def find(q:Us)(id:aL):Int:=match q.idx id with
 |none=>-1
 |some i=>q.place i
def ej(q:Us)(x:Un):Int:=if x.r=⟨0,0⟩then q.us.length else q.find x.r
def ahead(q:Us)(x y:Un):Bool:=if q.ej x=q.ej y then x.id.lt y.id else decide (q.ej x>q.ej y)
def there(q:Us)(id:aL):Bool:=decide (id=⟨0,0⟩)||(q.idx id).isSome
def may(q:Us)(x:Un):Bool:=x.id.right&&(q.idx x.id).isNone&&q.there x.l&&q.there x.r&&(decide (x.l=⟨0,0⟩)||decide (x.r=⟨0,0⟩)||decide (q.find x.l<q.find x.r))
def kL(q:Us)(l:List Nat)(id:aL):Nat:=(l.takeWhile fun i=>(q.u i).id.lt id).length
def kR(q:Us)(l:List Nat)(x:Un):Nat:=(l.takeWhile fun i=>q.ahead (q.u i) x).length
def bA(q:Us)(x:Un):Option Nat:=match q.idx x.r with
 |none=>none
 |some r=>match q.idx x.l with
  |none=>some r
  |some l=>if l∈(Fo.path [] q.F r).tail then some r else none
def put(q:Us)(x:Un):Us:=⟨q.us++[x],match q.bA x with
 |some r=>Fo.jK r (Fo.put q.us.length (q.kL (db q.F r).1.roots x.id)) q.F
 |none=>match q.idx x.l with
  |some l=>Fo.atR l (Fo.put q.us.length (q.kR (db q.F l).2.roots x)) q.F
  |none=>Fo.put q.us.length (q.kR q.F.roots x) q.F⟩
def pl(q:Us)(x:Un):Nat:=match q.bA x with
 |some r=>q.place r-((db q.F r).1.sz-Fo.pre (q.kL (db q.F r).1.roots x.id) (db q.F r).1)
 |none=>match q.idx x.l with
  |some l=>q.place l+1+Fo.pre (q.kR (db q.F l).2.roots x) (db q.F l).2
  |none=>Fo.pre (q.kR q.F.roots x) q.F
def nx(x:Un)(n:Nat):Un:=if n=0 then x else⟨⟨x.id.c,x.id.k+n⟩,⟨x.id.c,x.id.k+n-1⟩,x.r⟩
def cG(q:Us)(x:Un):Nat→Us
 |0=>q
 |n+1=>(q.cG x n).put (nx x n)
def runs(q:Us)(x:Un)(n:Nat):Bool:=decide (1≤n)&&decide (x.id.k+n≤9007199254740992)&&(List.range n).all (fun i=>(q.idx ⟨x.id.c,x.id.k+i⟩).isNone)&&q.may x
def run(q:Us)(x:Un)(n:Nat):Us:=if q.runs x n then q.cG x n else q
structure Ok(q:Us):Prop where
 nd:q.F.flat.Nodup
 mem:∀i,i∈q.F.flat↔i<q.us.length
 ids:(q.us.map (·.id)).Nodup
 right:∀u∈q.us,u.id.right=true
 Qo:∀i p s a b,Fo.At q.F none false i p s a b→(a.roots.map fun k=>(q.u k).id).Pairwise fun x y=>x.lt y=true
section
variable{q:Us} {x:Un}
theorem ba{id:aL}{i:Nat}(h:q.idx id=some i):i<q.us.length∧(q.u i).id=id:=by
 obtain ⟨h1,h2,_⟩:=uA.1 h;refine ⟨h1,?_⟩;simp only [Us.u,uB,xW h1,uD]
 simpa using h2
theorem Mc{i:Nat}(h:i<q.us.length):q.us[i]?=some (q.u i):=by simp [Us.u,xW h]
theorem DO{i:Nat}(h:i<q.us.length):q.u i∈q.us:=xU (Mc h)
theorem Ok.kB(h:q.Ok){i:Nat}(hi:i<q.us.length):q.idx (q.u i).id=some i:=by
 have hu:q.u i=q.us[i]:=by simp [Us.u,xW hi]
 refine uA.2 ⟨hi,by simp [hu],fun j hj=>?_⟩;have:=xJ.1 h.ids j i J6 (by simpa using hi) hj
 simpa [hu]using this
theorem eP{id:aL}:q.idx id=none↔id∉q.us.map (·.id):=by
 unfold Us.idx;rw [uE];simp only [decide_eq_false_iff_not,vE,not_exists,not_and]
theorem Ok.nb(h:q.Ok):q.idx ⟨0,0⟩=none:=eP.2 fun hh=>by
 obtain ⟨u,hu,e⟩:=vE.1 hh;exact aL.mV (h.right u hu) e
theorem Ok.fe(h:q.Ok):q.F.flat.length=q.us.length:=by
 have h1:q.F.flat.Perm (List.range q.us.length):=(List.perm_ext_iff_of_nodup h.nd List.nodup_range).2 fun i=>by rw [h.mem,List.mem_range]
 rw [h1.length_eq,List.length_range]
theorem Ok.sT(h:q.Ok):q.ax.length=q.us.length:=by rw [Us.ax,uF,h.fe]
theorem Ok.cF(h:q.Ok){i:Nat}(hi:i<q.us.length):q.F.flat[q.place i]?=some i:=by
 have hm:=(h.mem i).2 hi;have aM:=List.idxOf_lt_length_of_mem hm;rw [Us.place,xW aM,List.getElem_idxOf]
theorem Ok.lk(h:q.Ok){i:Nat}(hi:i<q.us.length):q.place i<q.us.length:=by
 have:=(yV.1 (h.cF hi)).1
 rwa [h.fe]at this
theorem cW{α:Type}(p:α→Bool)(l:List α):(l.takeWhile p).length≤l.length:=(List.takeWhile_sublist p).length_le
theorem Ok.grown(h:q.Ok)(x:Un):∃pa sd k up,Grown q.F (q.put x).F q.us.length pa sd k up (q.pl x)∧(pa=none→up=[])∧(∀t,pa=some t→t∈q.F.flat∧up=Fo.path [] q.F t)∧
  (∀r,q.bA x=some r→pa=some r∧sd=true∧k=q.kL (db q.F r).1.roots x.id∧up=Fo.path [] q.F r)∧
  (q.bA x=none→sd=false∧pa=q.idx x.l∧(∀l,q.idx x.l=some l→k=q.kR (db q.F l).2.roots x∧up=Fo.path [] q.F l)∧(q.idx x.l=none→k=q.kR q.F.roots x∧up=[])):=by
 have hx:q.us.length∉q.F.flat:=fun hh=>by have:=(h.mem _).1 hh;omega
 unfold Us.put Us.pl;cases hl:q.bA x with
 |some r=>
  have hr:r<q.us.length:=by
   unfold Us.bA at hl
   split at hl
   ·cases hl
   ·rename_i r' h1;have:=(ba h1).1
    split at hl
    ·cases hl;exact this
    ·split at hl
     ·cases hl;exact this
     ·cases hl
  obtain ⟨p,s,a,b,hA⟩:=Fo.At.dV none false ((h.mem r).2 hr);have hs:=At.db hA h.nd;refine ⟨some r,true,_,_,?_,fun e=>(by cases e),fun t e=>(by cases e;exact ⟨hA.mem.1,rfl⟩),fun r' e=>by cases e;exact ⟨rfl,rfl,rfl,rfl⟩,fun e=>by cases e⟩;have:=Bp (x:=q.us.length) (k:=q.kL a.roots x.id) (pl:=q.place r) h.nd hx hA (by simpa [kL]using cW _ (a.roots)) (h.cF hr)
  simpa only [hs]using this
 |none=>
  cases hi:q.idx x.l with
  |some l=>
   have hr:=(ba hi).1;obtain ⟨p,s,a,b,hA⟩:=Fo.At.dV none false ((h.mem l).2 hr);have hs:=At.db hA h.nd;refine ⟨some l,false,_,_,?_,fun e=>(by cases e),fun t e=>(by cases e;exact ⟨hA.mem.1,rfl⟩),fun r' e=>(by cases e),fun _=>⟨rfl,rfl,fun l' e=>(by cases e;exact ⟨rfl,rfl⟩),fun e=>(by cases e)⟩⟩;have:=yu (x:=q.us.length) (k:=q.kR b.roots x) (pl:=q.place l) h.nd hx hA (cW _ _) (h.cF hr)
   simpa only [hs]using this
  |none=>
   refine ⟨none,false,_,_,?_,fun _=>rfl,fun t e=>(by cases e),fun r' e=>(by cases e),fun _=>⟨rfl,rfl,fun l' e=>(by cases e),fun _=>⟨rfl,rfl⟩⟩⟩;exact BM (k:=q.kR q.F.roots x) hx (cW _ _)
theorem gB(q:Us)(x:Un):(q.put x).us.length=q.us.length+1:=by simp [Us.put]
theorem Fv{i:Nat}(h:i<q.us.length):(q.put x).u i=q.u i:=by simp [Us.u,Us.put,vJ h]
theorem ot:(q.put x).u q.us.length=x:=by simp [Us.u,Us.put]
theorem nN(h:q.idx x.id=none)(id:aL):(q.put x).idx id=if x.id=id then some q.us.length else q.idx id:=by
 unfold Us.idx at*;simp only [Us.put,List.findIdx?_append,List.findIdx?_singleton]
 by_cases hid:x.id=id
 ·subst hid;simp [h]
 ·simp [hid]
theorem jQ{α:Type}(p:α→Bool)(l:List α){k:Nat}(hk:k=(l.takeWhile p).length):(∀y∈l.take k,p y=true)∧∀y,l[k]?=some y→p y=false:=by
 subst hk
 induction l with
 |nil=>simp
 |cons a l ih=>
  by_cases h:p a=true
  ·simp only [uG,h,yT,yF,List.take_succ_cons,yH,uH];exact ⟨fun y hy=>hy.elim (fun e=>e▸h) (ih.1 y),ih.2⟩
  ·simp [h]
theorem takeWhile_congr{α:Type}{p p':α→Bool}:∀{l:List α},(∀y∈l,p y=p' y)→l.takeWhile p=l.takeWhile p'
 |[],_=>rfl
 |a::l,h=>by
  have h1:=h a (zS ..);have h2:=takeWhile_congr (l:=l) fun y hy=>h y (zO _ hy)
  simp only [uG,h1,h2]
theorem BR{l:List Nat}{f:Nat→aL}{x:Nat}(hs:(l.map f).Pairwise fun a b=>a.lt b=true)(hx:∀y∈l,f y≠f x):((aB (l.takeWhile fun i=>(f i).lt (f x)).length x l).map f).Pairwise fun a b=>a.lt b=true:=by
 induction l with
 |nil=>simp [aB]
 |cons a l ih=>
  obtain ⟨h1,h2⟩:=yZ.1 hs
  by_cases h:(f a).lt (f x)=true
  ·simp only [uG,h,yT,yF];have:aB ((l.takeWhile fun i=>(f i).lt (f x)).length+1) x (a::l)=a::aB (l.takeWhile fun i=>(f i).lt (f x)).length x l:=rfl;rw [this,xK];refine yZ.2 ⟨fun y hy=>?_,ih h2 fun y hy=>hx y (zO _ hy)⟩;obtain ⟨z,hz,rfl⟩:=vE.1 hy;rcases oB.1 hz with rfl|hz
   ·exact h
   ·exact h1 _ (vE.2 ⟨z,hz,rfl⟩)
  ·simp only [uG,zX h,xE,qx,xK];have h0:(f x).lt (f a)=true:=(aL.Hc (hx a (zS ..))).resolve_left h;refine yZ.2 ⟨fun y hy=>?_,hs⟩;rcases yH.1 hy with rfl|hy
   ·exact h0
   ·exact aL.lt_trans h0 (h1 y hy)
theorem Ok.put(h:q.Ok)(hr:x.id.right=true)(hn:q.idx x.id=none):(q.put x).Ok:=by
 obtain ⟨pa,sd,k,up,g,_,_,g1,g2⟩:=h.grown x;have hx:q.us.length∉q.F.flat:=fun hh=>by have:=(h.mem _).1 hh;omega
 refine ⟨?_,fun i=>?_,?_,fun u hu=>?_,fun i p s a b hA=>?_⟩
 ·rw [g.flat];exact (qP _ _ _).nodup_iff.2 (yO.2 ⟨hx,h.nd⟩)
 ·rw [g.flat,oB,h.mem,gB];omega
 ·show((q.us++[x]).map _).Nodup;rw [uJ];refine yN.2 ⟨h.ids,YA,fun a ha b hb=>?_⟩;simp only [xK,List.map_nil,zT]at hb;subst hb;rintro rfl;exact eP.1 hn ha
 ·rcases yL.1 hu with hu|hu
  ·exact h.right u hu
  ·rw [zT]at hu;subst hu;exact hr
 ·rcases g.old hA with⟨_,_,rfl,_⟩|⟨dP,a0,b0,IW,e1,_,_⟩
  ·simp [Fo.roots]
  ·have hs:=h.Qo i p s a0 b0 IW;have aM:∀y∈a0.roots,y<q.us.length:=fun y hy=>(h.mem y).1 (IW.mem.2.1 y (Fo.bT _ y hy))
   have he:∀l:List Nat,(∀y∈l,y<q.us.length)→(l.map fun k=>((q.put x).u k).id)=l.map fun k=>(q.u k).id:=fun l hl=>List.map_congr_left fun y hy=>by rw [Fv (hl y hy)]
   rw [e1]
   split
   ·rename_i hc;obtain ⟨rfl,rfl⟩:=hc;have hl:q.bA x=some i:=by
     cases hl:q.bA x with
     |none=>have:=(g2 hl).1;cases this
     |some r=>have:=(g1 r hl).1;exact this.symm
    obtain ⟨_,_,rfl,_⟩:=g1 i hl;rw [At.db IW h.nd];have ud:(a0.roots.map fun k=>((q.put x).u k).id).Pairwise fun a b=>a.lt b=true:=by rw [he _ aM];exact hs
    have:=BR (f:=fun k=>((q.put x).u k).id) (x:=q.us.length) ud (fun y hy=>by
     simp only [ot,Fv (aM y hy)];intro hh;exact eP.1 hn (vE.2 ⟨_,DO (aM y hy),hh⟩))
    simp only [ot]at this;have e:q.kL a0.roots x.id=(a0.roots.takeWhile fun i=>((q.put x).u i).id.lt x.id).length:=by
     unfold kL;exact xZ List.length (takeWhile_congr fun i hi=>by rw [Fv (aM i hi)])
    rw [e];exact this
   ·rw [he _ aM];exact hs
end
end Go.Proofs.YtgpgladbdoimdaaGreatDoor.Us
namespace Go.Proofs.YtgpgladbdoimdaaGreatDoor
open Go.Ids Go.SeqP
structure Om(F F':Fo)(x n:Nat)(pa:Option Nat)(sd:Bool)(k:Nat)(up:List Nat)(pl:Nat):Prop where
 flat:F'.flat=F.flat.take pl++((List.range n).map (x+·)++F.flat.drop pl)
 le:pl≤F.flat.length
 roots:F'.roots=if pa=none then aB k x F.roots else F.roots
 old:∀{i p s a' b'},Fo.At F' none false i p s a' b'→(∃j,j<n∧i=x+j∧p=(if j=0 then pa else some (x+j-1))∧a'=.nil∧b'.roots=(if j+1<n then[x+j+1]else[])∧b'.sz+1+j=n)∨(i<x∧∃a b,Fo.At F none false i p s a b∧
  a'.roots=(if pa=some i∧sd=true then aB k x a.roots else a.roots)∧b'.roots=(if pa=some i∧sd=false then aB k x b.roots else b.roots)∧a'.sz+b'.sz=a.sz+b.sz+(if i∈up then n else 0))
end Go.Proofs.YtgpgladbdoimdaaGreatDoor
namespace Go.Proofs.YtgpgladbdoimdaaGreatDoor.Us
section
open Go.Ids Go.SeqP
variable{q:Us} {x:Un}
theorem lq(x:Un)(j:Nat):(nx x j).id=⟨x.id.c,x.id.k+j⟩:=by
 unfold nx
 split
 ·rename_i h;subst h;rfl
 ·rfl
theorem lO(q:Us)(x:Un):∀n,(q.cG x n).us=q.us++(List.range n).map (nx x)
 |0=>by simp [Us.cG]
 |n+1=>by
  have:=lO q x n;simp [Us.cG,Us.put,this,List.range_succ]
theorem kZ(q:Us)(x:Un)(n:Nat):(q.cG x n).us.length=q.us.length+n:=by simp [lO]
theorem Pz{i:Nat}(n:Nat)(h:i<q.us.length):(q.cG x n).u i=q.u i:=by simp [Us.u,lO,vJ h]
theorem si{j n:Nat}(h:j<n):(q.cG x n).u (q.us.length+j)=nx x j:=by simp [Us.u,lO,h]
theorem tc{f:Fo}(h:f.roots=[]):f=.nil:=by
 cases f with
 |nil=>rfl
 |cons=>simp [Fo.roots]at h
structure lu(q:Us)(x:Un)(n:Nat):Prop where
 pos:1≤n
 top:x.id.k+n≤9007199254740992
 new:∀i,i<n→q.idx ⟨x.id.c,x.id.k+i⟩=none
 may:q.may x=true
theorem iM{n:Nat}:q.runs x n=true↔q.lu x n:=by
 unfold Us.runs;simp only [wR,vY,wX,List.mem_range,uK];exact ⟨fun⟨⟨⟨h1,h2⟩,h3⟩,h4⟩=>⟨h1,h2,h3,h4⟩,fun⟨h1,h2,h3,h4⟩=>⟨⟨⟨h1,h2⟩,h3⟩,h4⟩⟩
theorem lu.right{n:Nat}(r:q.lu x n):x.id.right=true:=by have:=r.may;simp only [Us.may,wR]at this;exact this.1.1.1.1
theorem lu.u0{n:Nat}(r:q.lu x n){j:Nat}(h:j<n):(nx x j).id.right=true:=by
 have h1:=r.right;have h2:=r.top;rw [lq];simp only [aL.right,num,wR,vY]at h1 ⊢;omega
theorem lu.there{n:Nat}(r:q.lu x n):(x.l=⟨0,0⟩∨∃i,q.idx x.l=some i)∧(x.r=⟨0,0⟩∨∃i,q.idx x.r=some i):=by
 have:=r.may;simp only [Us.may,Us.there,wR,wS,vY,uL]at this;exact ⟨this.1.1.2,this.1.2⟩
theorem jz{n m:Nat}(hn:∀i,i<m→q.idx ⟨x.id.c,x.id.k+i⟩=none)(h:n<m):(q.cG x n).idx (nx x n).id=none:=by
 have h1:=eP.1 (hn n h);rw [eP,lO,lq];simp only [uJ,yL,uM,vE,List.mem_range,Function.comp_apply,not_or,not_exists,not_and];refine ⟨fun z hz e=>h1 (vE.2 ⟨z,hz,e⟩),fun j hj e=>?_⟩;rw [lq]at e;have:=xZ aL.k e;simp only at this;omega
theorem nH(h:q.Ok){n:Nat}(r:q.lu x n):∀m,m≤n→(q.cG x m).Ok
 |0,_=>h
 |m+1,hm=>(nH h r m J9).put (r.u0 J9) (jz r.new J9)
theorem Ok.F3(h:q.Ok){n0:Nat}(r:q.lu x n0):∃pa sd k up,Grown q.F (q.put x).F q.us.length pa sd k up (q.pl x)∧(pa=none→up=[])∧(∀t,pa=some t→t∈q.F.flat∧up=Fo.path [] q.F t)∧
  (∀r,q.bA x=some r→pa=some r∧sd=true∧k=q.kL (db q.F r).1.roots x.id∧up=Fo.path [] q.F r)∧
  (q.bA x=none→sd=false∧pa=q.idx x.l∧(∀l,q.idx x.l=some l→k=q.kR (db q.F l).2.roots x∧up=Fo.path [] q.F l)∧(q.idx x.l=none→k=q.kR q.F.roots x∧up=[]))∧
  ∀n,n<n0→Om q.F (q.cG x (n+1)).F q.us.length (n+1) pa sd k up (q.pl x)∧Fo.path [] (q.cG x (n+1)).F (q.us.length+n)=((List.range (n+1)).map (q.us.length+·)).reverse++up:=by
 obtain ⟨pa,sd,k,up,g,g0,g3,g1,g2⟩:=h.grown x;refine ⟨pa,sd,k,up,g,g0,g3,g1,g2,?_⟩;have aM:∀{i:Nat},i∈q.F.flat→i<q.us.length:=fun hi=>(h.mem _).1 hi
 intro n
 induction n with
 |zero=>
  intro hn;have e0:(q.cG x (0+1)).F=(q.put x).F:=rfl;rw [e0];refine ⟨⟨?_,g.le,g.roots,fun{i p s a' b'} hA=>?_⟩,?_⟩
  ·rw [g.flat];simp [aB]
  ·rcases g.old hA with⟨rfl,rfl,rfl,rfl⟩|⟨dP,a,b,h1,h2,h3,h4⟩
   ·exact .inl ⟨0,J9,rfl,YA,rfl,by simp [Fo.roots],by simp [Fo.sz,Fo.flat]⟩
   ·exact .inr ⟨aM h1.mem.1,a,b,h1,h2,h3,by simpa using h4⟩
  ·have hk:=(h.put r.right (by simpa using r.new 0 J9)).nd;obtain ⟨t,e,hq,ht⟩:=g.new.path (up:=[]) hk YA;rw [show q.us.length+0=q.us.length from rfl,e];rcases ht with rfl|⟨t',rfl,h1,h2⟩
   ·have:pa=none:=by simpa using hq
    rw [g0 this];simp
   ·obtain ⟨h3,h4⟩:=g3 t' rfl;rw [h4,←g.dC t' h3,h1];simp
 |succ n ih=>
  intro hn;obtain ⟨G,hP⟩:=ih J9;have hK:=nH h r (n+1) J9;have vg:(q.cG x (n+1)).us.length=q.us.length+(n+1):=kZ ..;have CL:q.us.length+n<(q.cG x (n+1)).us.length:=by omega
  have BZ:(q.cG x (n+1)).u (q.us.length+n)=nx x n:=si J9;have hi:(q.cG x (n+1)).idx (nx x (n+1)).l=some (q.us.length+n):=by
   have:=hK.kB CL;rw [BZ,lq]at this
   simpa [nx]using this
  obtain ⟨p0,s0,a0,b0,IW⟩:=Fo.At.dV none false ((hK.mem _).2 CL);have sM:a0=.nil∧b0=.nil:=by
   rcases G.old IW with⟨j,hj,e,_,h1,h2,_⟩|⟨hh,_⟩
   ·have:j=n:=by omega
    subst this;exact ⟨h1,tc (by simpa using h2)⟩
   ·omega
  obtain ⟨rfl,rfl⟩:=sM;have gF:(q.cG x (n+1)).bA (nx x (n+1))=none:=by
   unfold Us.bA;cases hr:(q.cG x (n+1)).idx (nx x (n+1)).r with
   |none=>rfl
   |some r'=>
    simp only [hi];rw [zX];intro hm;have iQ:=(ba hr).1;have:=(IW.gO (up:=[]) hK.nd YA ((hK.mem r').2 iQ)).1 (List.mem_of_mem_tail hm);rcases this with rfl|hh|hh
    ·have e1:=(ba hr).2;rw [BZ]at e1;have e2:(nx x (n+1)).r=x.r:=by simp [nx]
     rw [e2,lq]at e1;rcases r.there.2 with h0|⟨i,h0⟩
     ·rw [h0]at e1;have:=r.u0 (j:=n) J9;rw [lq,e1]at this;exact aL.mV this rfl
     ·rw [←e1,r.new n J9]at h0;cases h0
    ·simp [Fo.flat]at hh
    ·simp [Fo.flat]at hh
  obtain ⟨pa',sd',k',up',g',_,_,_,g2'⟩:=hK.grown (nx x (n+1));obtain ⟨rfl,e2,e3,_⟩:=g2' gF;obtain ⟨rfl,rfl⟩:=e3 _ hi;rw [hi]at e2;subst e2;rw [At.db IW hK.nd]at g';have ib:(q.cG x (n+1)).kR (Fo.nil).roots (nx x (n+1))=0:=by simp [Us.kR,Fo.roots]
  rw [ib]at g';have A0:(q.cG x (n+1)).pl (nx x (n+1))=q.pl x+(n+1):=by
   have h0:(q.cG x (n+1)).pl (nx x (n+1))=(q.cG x (n+1)).place (q.us.length+n)+1+0:=by
    unfold Us.pl;simp only [gF,hi,At.db IW hK.nd,ib,Fo.pre]
   have h1:=hK.cF CL;have h2:(q.cG x (n+1)).F.flat[q.pl x+n]?=some (q.us.length+n):=by
    have ht:(q.F.flat.take (q.pl x)).length=q.pl x:=by rw [yA];exact zR G.le
    rw [G.flat,vM J9,ht,vJ YA];simp
   have:=(vZ (yV.1 h1).1 hK.nd).1 (h1.trans h2.symm);omega
  rw [A0,vg]at g';have Hv:(q.cG x (n+1+1)).F=((q.cG x (n+1)).put (nx x (n+1))).F:=rfl;rw [Hv];refine ⟨⟨?_,G.le,?_,fun{i p s a' b'} hA=>?_⟩,?_⟩
  ·have ht:(q.F.flat.take (q.pl x)).length=q.pl x:=by rw [yA];exact zR G.le
   rw [g'.flat,G.flat];have e:q.pl x+(n+1)=(q.F.flat.take (q.pl x)).length+(((List.range (n+1)).map (q.us.length+·)).length+0):=by simp [ht]
   rw [e,eO,eO,qx,List.range_succ (n:=n+1)];simp
  ·rw [g'.roots,zX YA,G.roots]
  ·rcases g'.old hA with⟨rfl,rfl,rfl,rfl⟩|⟨dP,a,b,h1,h2,h3,h4⟩
   ·exact .inl ⟨n+1,J9,rfl,by rw [zX J9];exact xZ some J9,rfl,by simp [Fo.roots],by simp [Fo.sz,Fo.flat];omega⟩
   ·have hm:=hP▸h4;clear h4;simp only [and_true,wC,and_false,wE]at h2 h3;rcases G.old h1 with⟨j,hj,rfl,hp,rfl,hb,hs⟩|⟨hG,a2,b2,k1,k2,k3,k4⟩
    ·have h5:=tc h2;subst h5;have mN:q.us.length+j∈((List.range (n+1)).map (q.us.length+·)).reverse++up:=by simp;exact .inl J9
     rw [yS mN]at hm;refine .inl ⟨j,J9,rfl,hp,rfl,?_,by simp only [Fo.sz,Fo.flat,xE]at hm hs ⊢;omega⟩;rw [h3,hb]
     by_cases V7:j=n
     ·subst V7;simp [aB,Nat.add_assoc]
     ·rw [zX J6,yS J9,yS J9]
    ·have Cb:¬q.us.length+n=i:=by omega
     refine .inr ⟨hG,a2,b2,k1,h2.trans k2,?_,?_⟩
     ·rw [h3,zX (by simp [Cb]),k3]
     ·rw [hm,k4];have:i∈((List.range (n+1)).map (q.us.length+·)).reverse++up↔i∈up:=by
       simp only [yL,List.mem_reverse,vE,List.mem_range,or_iff_right_iff_imp];rintro ⟨j,_,rfl⟩;omega
      simp only [this]
      split<;>omega
  ·have hk:=(hK.put (r.u0 (j:=n+1) J9) (jz r.new J9)).nd;have ks:=g'.new;obtain ⟨t,e,hq,ht⟩:=ks.path (up:=[]) hk YA;rw [show q.us.length+(n+1)=q.us.length+(n+1) from rfl,e];rcases ht with rfl|⟨t',h0,h1,h2⟩
   ·simp at hq
   ·cases h0;rw [←h1,g'.dC _ ((hK.mem _).2 CL),hP,List.range_succ (n:=n+1)];simp
end
end Go.Proofs.YtgpgladbdoimdaaGreatDoor.Us
namespace Go.Proofs.YtgpgladbdoimdaaGreatDoor
open Go.Ids Go.SeqP Fo
theorem At.Du{i:Nat}{l r:Fo}:∀{k:Nat} {f:Fo} (pa:Option Nat) (sd:Bool),Fo.nth k f=some (i,l,r)→Fo.At f pa sd i pa sd l r
 |_,.nil,_,_,h=>by simp [Fo.nth]at h
 |0,.cons j a b n,pa,sd,h=>by
  simp only [Fo.nth,yJ,yK]at h;obtain ⟨rfl,rfl,rfl⟩:=h;exact .inl ⟨rfl,rfl,rfl,rfl,rfl⟩
 |k+1,.cons j a b n,pa,sd,h=>.inr (.inr (.inr (At.Du (k:=k) pa sd (by simpa [Fo.nth]using h))))
theorem At.below{p:Nat}{q:Option Nat}{s:Bool}{a b:Fo}{y:Nat}{q':Option Nat}{s':Bool}{a' b':Fo}:∀{f:Fo} {pa:Option Nat} {sd:Bool},Fo.At f pa sd p q s a b→(Fo.At a (some p) true y q' s' a' b'∨Fo.At b (some p) false y q' s' a' b')→Fo.At f pa sd y q' s' a' b'
 |.nil,_,_,h,_=>h.elim
 |.cons i l r n,pa,sd,h,h'=>by
  rcases h with⟨rfl,_,_,rfl,rfl⟩|h|h|h
  ·rcases h' with h'|h'
   ·exact .inr (.inl h')
   ·exact .inr (.inr (.inl h'))
  ·exact .inr (.inl (At.below h h'))
  ·exact .inr (.inr (.inl (At.below h h')))
  ·exact .inr (.inr (.inr (At.below h h')))
theorem kW:∀(f:Fo),f.roots.length≤f.sz
 |.nil=>by simp [Fo.roots,Fo.sz]
 |.cons i l r n=>by
  have:=kW n;simp only [Fo.roots,Fo.sz,Fo.flat,yF,zY]at this ⊢;omega
theorem Us.Ok.nR{q:Us}(h:q.Ok){r:Nat}{p:Option Nat}{s:Bool}{a b:Fo}(hA:Fo.At q.F none false r p s a b):a.sz≤q.place r∧q.place r+b.sz<q.us.length:=by
 obtain ⟨u,v,e,_⟩:=hA.split h.nd;have hr:=(h.mem r).1 hA.mem.1;have h1:=h.cF hr;have h2:q.F.flat[u.length+a.sz]?=some r:=by
  rw [e,vM J9,vM (by simp [Fo.sz])];simp [Fo.sz]
 have h3:=(vZ (yV.1 h1).1 h.nd).1 (h1.trans h2.symm);have h4:=h.fe;have h5:=xZ List.length e;simp only [zY,yF,Fo.sz]at h5 h3 ⊢;omega
open Go.RowKit Go.Ev
theorem k8(a b:Nat):((a:Int)!=(b:Int))=decide (a≠b):=by
 by_cases h:a=b
 ·simp [h]
 ·have:¬(a:Int)=(b:Int):=by omega
  simp [h,bne,uN.2 this]
theorem fH:∀l:List aG,(l.flatMap rC).length=l.length*3
 |[]=>rfl
 |x::l=>by simp [rC,fH l];omega
theorem qi:∀(l:List aG) (k:Nat) (h:k<l.length) (j:Nat),j<3→(l.flatMap rC)[k*3+j]?=(rC l[k])[j]?
 |x::l,0,_,j,hj=>by
  rw [vH,vJ (by simp [rC];omega)];simp
 |x::l,k+1,h,j,hj=>by
  rw [vH,vM (by simp [rC];omega)];have:(k+1)*3+j-(rC x).length=k*3+j:=by simp [rC];omega
  rw [this,qi l k J5 j hj];simp
theorem mU(l:List aG):∀u∈l.flatMap rC,u.oneCell'=true:=by
 intro u hu;obtain ⟨x,_,hx⟩:=vS.1 hu;simp [rC]at hx;rcases hx with rfl|rfl|rfl<;>rfl
def Rs(m:World)(M:List Nat)(v:Value)(l:List aG):Prop:=Sl m M 3 v (l.flatMap rC)
theorem Rs.shape{m:World}{M:List Nat}{v:Value}{l:List aG}(h:Rs m M v l):∃A c,v=.slice A l.length c∧l.length≤c∧c≤maxLen:=Sl.shape h (fH l) J9
theorem Rs.bQ{m m':World}{v:Value}{l:List aG}(h:Rs m [] v l)(hE:Ext m [] m'):Rs m' [] v l:=Sl.ext h hE YA J9
theorem Rs.cell{m:World}{M:List Nat}{A:Option Addr}{n c:Nat}{l:List aG}(h:Rs m M (.slice A n c) l)(k:Nat)(hk:k<l.length):∃ad,A=some ad∧∀j u,(rC l[k])[j]?=some u→m.cell? ((ad.add (k*3)).add j)=some u:=by
 obtain ⟨hl,_⟩:=Sl.len h;rw [fH]at hl;obtain ⟨ad,rfl,_,hc⟩:=Sl.addr h J9;refine ⟨ad,rfl,fun j u hu=>?_⟩;have hj:j<3:=by have:=(yV.1 hu).1;simpa [rC]using this
 rw [add_add];exact hc _ u (by rw [qi l k hk j hj];exact hu)
theorem Il(m:World)(v:Value)(l:List aG)(h:Rs m [] v l)(hl:l.length<1000000000)(k:FuncId)(ca:List Value)(p:aG→Bool)(hf:∀m1 x,Ext m [] m1→dg Tryz.prog k (rV x::ca) m1 fun r m2=>r=.bool (p x)∧Ext m1 [] m2):
  dg Tryz.prog 140 [v,.func (.func k) #[] ca.toArray] m fun r m'=>(∃z:Int,r=.int .i64 z∧(0≤z↔l.any p=true))∧Ext m [] m':=by
 obtain ⟨A,c,rfl,_,_⟩:=h.shape;refine aP.zA Tryz.func140 ?_;refine af5 ?_;refine WP.loop (X:=Nat) (fun i=>[(0,.slice A l.length c),(1,.func (.func k) #[] ca.toArray),(7,.int .i64 l.length),(8,.int .i64 i)]) (fun i m'=>i≤l.length∧(l.take i).any p=false∧Ext m [] m') (fun i=>l.length-i) 0
  YC ⟨YA,YA,Ext.refl _ _⟩ ?_
 rintro i m1 ⟨hi,ht,hE⟩;refine aa8 ?_;refine WP.cond rfl (fun hc=>?_) (fun hc=>?_)
 ·have hc:i<l.length:=by have:=xS hc;omega
  obtain ⟨ad,rfl,hx⟩:=(h.bQ hE).cell i hc;refine ab7 ?_;refine aa0 ?_;refine ab3 ?_;refine ab0 ?_;refine RL.aJ aa (rC l[i]) rfl rfl rfl hx rfl ?_;refine RL.call (fi:=[]) (ca:=ca) rfl rfl rfl rfl (hf m1 l[i] hE) ?_;rintro _ m2 ⟨rfl,bM⟩;refine aa1 ?_;have sk:=hE.trans bM YA;refine RL.N1 (YE ?_);refine WP.cond rfl (fun hp=>?_) (fun hp=>?_)
  ·refine ab5 ?_;refine QN.aj rfl rfl ⟨_,rfl,⟨(i:Int),rfl,fun _=>?_,fun _=>by omega⟩,sk⟩;exact wU.2 ⟨l[i],vF _,hp⟩
  ·refine aj2 ?_;refine RL.N1 (QN.round (i+1) (Sub.C1 rfl (Sub.C1 rfl (Sub.C1 rfl (Sub.C1 ?_ Sub.nil)))) ⟨J9,?_,sk⟩ J9)
   ·show some (Value.int .i64 (IntKind.i64.wrap ((i:Int)+1)))=some (Value.int .i64 ((i+1:Nat):Int));rw [ag _ J9 J9];rfl
   ·rw [vN hc,List.any_append,ht];simp [hp]
 ·have hc:i=l.length:=by have:=vX hc;omega
  subst hc;rw [wF]at ht;refine af3 ?_;exact QN.aj rfl rfl ⟨_,rfl,⟨-1,rfl,fun h=>absurd h J9,fun h=>by rw [ht]at h;cases h⟩,hE⟩
theorem Af(m:World)(v:Value)(l:List aG)(h:Rs m [] v l)(hl:l.length<1000000000)(k:FuncId)(ca:List Value)(p:aG→Bool)(hf:∀m1 x,Ext m [] m1→dg Tryz.prog k (rV x::ca) m1 fun r m2=>r=.bool (p x)∧Ext m1 [] m2):
  dg Tryz.prog 91 [v,.func (.func k) #[] ca.toArray] m fun r m'=>r=.bool (l.any p)∧Ext m [] m':=by
 refine aP.zA Tryz.func91 ?_;refine aa8 ?_;refine ab3 ?_;refine zM (Il m v l h hl k ca p hf) ?_;rintro _ m1 ⟨⟨z,rfl,hz⟩,hE⟩;refine aa1 ?_;refine ac0 ?_;refine QN.aj rfl rfl ⟨_,rfl,xZ _ ?_,hE⟩;cases hp:l.any p with
 |true=>exact zW (hz.2 hp)
 |false=>exact zV (fun h=>by rw [hz.1 h]at hp;cases hp)
def qJ(id:aL)(r:aG):Bool:=r.right&&(decide (r.c=id.c)&&(decide (r.f≤id.k)&&decide (id.k<r.t)))
theorem NJ(m:World)(x:aG)(id:aL)(bi:Nat)(hI:bw m bi 30 (iC id)):dg Tryz.prog 92 [rV x,.pointer (some ⟨bi,0,none⟩)] m fun r m'=>r=.bool (qJ id x)∧Ext m [] m':=by
 refine aP.zA Tryz.func92 ?_;refine YG ?_;refine RL.box rfl rfl (fun b m1 hb hC=>⟨_,rfl,?_⟩);have yw:bw m1 b 167 (rC x):=hC.here;have dd:Ext m [] m1:=hC.new J9;have Mx:=hI.ext dd YA;clear hC;refine RL.A1 aa rfl ?_;refine RL.N1 (YE ?_);refine RL.aJ aa (rC x) rfl rfl rfl (fun j u hu=>by rw [av];exact yw.cell _ J2) rfl ?_;refine zM (u6 m1 x) ?_;rintro _ m2 ⟨rfl,bM⟩;refine ⟨_,rfl,?_⟩;have hB:=yw.ext bM YA;have hD:=Mx.ext bM YA;have hE:=dd.trans bM YA;clear yw Mx dd bM;refine RL.pure aa 1 rfl ?_
 by_cases h1:x.right=true
 ·refine ai9 ?_
  repeat(first|refine RL.pure aa 1 rfl ?_|refine RL.load aa rfl rfl rfl (hB.cell _ rfl) rfl ?_|refine RL.load aa rfl rfl rfl (hD.cell _ rfl) rfl ?_)
  by_cases h2:x.c=id.c
  ·refine RL.eqv (v':=.bool true) (xZ _ Jh) ?_
   repeat(first|refine RL.pure aa 1 rfl ?_|refine RL.load aa rfl rfl rfl (hB.cell _ rfl) rfl ?_|refine RL.load aa rfl rfl rfl (hD.cell _ rfl) rfl ?_)
   by_cases h3:x.f≤id.k
   ·refine RL.eqv (v':=.bool true) (xZ _ JV) ?_
    repeat(first|refine RL.pure aa 1 rfl ?_|refine RL.load aa rfl rfl rfl (hB.cell _ rfl) rfl ?_|refine RL.load aa rfl rfl rfl (hD.cell _ rfl) rfl ?_)
    refine aa3 ?_;rw [sv];simp [qJ,h1,h2,h3]
   ·refine RL.eqv (v':=.bool false) (xZ _ JU) ?_
    repeat(first|refine RL.pure aa 1 rfl ?_|refine RL.load aa rfl rfl rfl (hB.cell _ rfl) rfl ?_|refine RL.load aa rfl rfl rfl (hD.cell _ rfl) rfl ?_)
    refine aa3 ?_;simp [qJ,h1,h2,h3]
  ·refine RL.eqv (v':=.bool false) (xZ _ Jf) ?_
   repeat(first|refine RL.pure aa 1 rfl ?_|refine RL.load aa rfl rfl rfl (hB.cell _ rfl) rfl ?_|refine RL.load aa rfl rfl rfl (hD.cell _ rfl) rfl ?_)
   refine aa3 ?_;simp [qJ,h1,h2]
 ·refine ah0 ?_
  repeat(first|refine RL.pure aa 1 rfl ?_|refine RL.load aa rfl rfl rfl (hB.cell _ rfl) rfl ?_|refine RL.load aa rfl rfl rfl (hD.cell _ rfl) rfl ?_)
  refine aa3 ?_;simp [qJ,h1]
def hasB(l:List aG)(id:aL):Bool:=id.right&&l.any (qJ id)
theorem MA(m:World)(v:Value)(l:List aG)(h:Rs m [] v l)(hl:l.length<1000000000)(id:aL):dg Tryz.prog 44 [v,iV id] m fun r m'=>r=.bool (hasB l id)∧Ext m [] m':=by
 refine aP.zA Tryz.func44 ?_;refine YG ?_;refine RL.box rfl rfl (fun b m1 hb hC=>⟨_,rfl,?_⟩);have yw:bw m1 b 30 (iC id):=hC.here;have dd:Ext m [] m1:=hC.new J9;clear hC;refine RL.A1 aa rfl ?_;refine RL.N1 (YE ?_);refine RL.aJ aa (iC id) rfl rfl rfl (fun j u hu=>by rw [av];exact yw.cell _ J2) rfl ?_;refine zM (zr m1 id) ?_;rintro _ m2 ⟨rfl,bM⟩;refine ⟨_,rfl,?_⟩;have hB:=yw.ext bM YA;have hE:=dd.trans bM YA;clear yw dd bM;refine RL.pure aa 1 rfl ?_
 by_cases h1:id.right=true
 ·refine ai9 ?_;refine ab3 ?_;refine zM (Af m2 v l (h.bQ hE) hl 92 [.pointer (some ⟨b,0,none⟩)] (qJ id) (fun m3 x eN=>NJ m3 x id b (hB.ext eN YA))) ?_;rintro _ m3 ⟨rfl,eN⟩;refine aa1 ?_;refine ac0 ?_;refine QN.aj rfl rfl ⟨_,rfl,xZ _ ?_,hE.trans eN YA⟩;simp [hasB,h1]
 ·refine ah0 ?_;refine ac0 ?_;refine QN.aj rfl rfl ⟨_,rfl,xZ _ ?_,hE⟩;simp [hasB,h1]
theorem zt(l:List aG)(id:aL):hasB l id=l.any (qJ id):=by
 unfold hasB;cases h:l.any (qJ id)with
 |false=>simp
 |true=>
  obtain ⟨x,_,hx⟩:=wU.1 h;simp only [qJ,wR,vY]at hx;obtain ⟨h1,h2,h3,h4⟩:=hx;have:=bL.1 h1;simp [aL.right,num];omega
def ic(a b:Nat):Int:=if a<b then-1 else if b<a then 1 else 0
theorem Dm(m:World)(a:Nat):dg Tryz.prog 215 [.int .u64 a] m fun r m'=>r=.bool false∧m'=m:=by
 refine aP.zA Tryz.func215 ?_;refine aa8 ?_;refine ad0 ?_;refine RL.eqv (v':=.bool false) (xZ _ YA) ?_;refine ac0 ?_;exact QN.aj rfl rfl ⟨_,rfl,rfl,rfl⟩
theorem lB(m:World)(a b:Nat):dg Tryz.prog 173 [.int .u64 a,.int .u64 b] m fun r m'=>r=.int .i64 (ic a b)∧m'=m:=by
 refine aP.zA Tryz.func173 ?_;refine aa8 ?_;refine ab3 ?_;refine zM (Dm m a) ?_;rintro _ m1 ⟨rfl,rfl⟩;refine ai2 ?_;refine ab3 ?_;refine zM (Dm m1 b) ?_;rintro _ m2 ⟨rfl,rfl⟩;refine ai2 ?_;refine aa0 ?_;refine WP.bg rfl ?_;refine ab7 ?_;refine aa0 ?_;refine WP.bg rfl ?_;refine ab7 ?_;refine aa0 ?_;refine WP.cond rfl (fun hc=>?_) (fun hc=>?_)
 ·have hc:a<b:=by have:=xS hc;omega
  refine ab5 ?_;exact QN.aj rfl rfl ⟨_,rfl,by rw [ic,yS hc],rfl⟩
 have hc:¬a<b:=by have:=vX hc;omega
 refine ab7 ?_;refine aa0 ?_;refine WP.cond rfl (fun jT=>?_) (fun jT=>?_)
 ·have jT:b<a:=by have:=xS jT;omega
  refine ab5 ?_;exact QN.aj rfl rfl ⟨_,rfl,by rw [ic,zX hc,yS jT],rfl⟩
 ·have jT:¬b<a:=by have:=vX jT;omega
  refine ab7 ?_;refine ac0 ?_;exact QN.aj rfl rfl ⟨_,rfl,by rw [ic,zX hc,zX jT],rfl⟩
theorem Q5(m:World)(v:Value)(a b:Int)(h:Sl m [] 1 v [.int .i64 a,.int .i64 b]):dg Tryz.prog 172 [v] m fun r m'=>r=.int .i64 (if a=0 then b else a)∧m'=m:=by
 obtain ⟨A,c,rfl,TG,_⟩:=h.shape (n:=2) rfl J9;refine aP.zA Tryz.func172 ?_;refine af5 ?_;refine aa0 ?_;refine WP.loop (X:=Nat) (fun i=>[(6,.slice A 2 c),(7,.int .i64 2),(3,.int .i64 0),(8,.int .i64 i)]) (fun i m'=>i≤2∧m'=m∧(1≤i→a=0)∧(2≤i→b=0)) (fun i=>2-i) 0
  YC ⟨J9,rfl,fun h=>absurd h J9,fun h=>absurd h J9⟩ ?_
 rintro i m1 ⟨hi,rfl,h1,h2⟩;have step:∀(x:Int) (hx:[Value.int .i64 a,Value.int .i64 b][i]?=some (.int .i64 x)) (aM:i<2),(x≠0→(if a=0 then b else a)=x)→(x=0→(1≤i+1→a=0)∧(2≤i+1→b=0))→True:=fun _ _ _ _ _=>trivial
 refine aa8 ?_;refine WP.cond rfl (fun hc=>?_) (fun hc=>?_)
 ·have hc:i<2:=by have:=xS hc;omega
  obtain ⟨x,hx,dP,Xr⟩:∃x:Int,[Value.int .i64 a,Value.int .i64 b][i]?=some (.int .i64 x)∧(x≠0→(if a=0 then b else a)=x)∧(x=0→(1≤i+1→a=0)∧(2≤i+1→b=0)):=by
   match i,hc with
   |0,_=>exact ⟨a,rfl,fun h=>by rw [zX h],fun h=>⟨fun _=>h,fun h=>absurd h J9⟩⟩
   |1,_=>exact ⟨b,rfl,fun h=>by rw [yS (h1 J9)],fun h=>⟨fun _=>h1 J9,fun _=>h⟩⟩
  refine ab7 ?_;refine RL.index aa h (k:=i) rfl hc rfl rfl rfl rfl (fun ad _ _ bN=>⟨_,rfl,?_⟩);have hx:=bN 0 _ (by rw [uO];exact hx);refine RL.load aa rfl rfl rfl Jo rfl ?_;refine RL.A1 aa rfl ?_;refine RL.N1 (YE ?_);refine RL.pure aa 2 rfl ?_;refine RL.pure aa 1 rfl ?_
  by_cases h0:x=0
  ·refine RL.eqv (v':=.bool false) (xZ _ (by simp [h0])) ?_;refine RL.N1 (YE ?_);refine WP.bg rfl ?_;refine ab7 ?_;refine ac6 ?_;refine aa6 ?_;exact RL.N1 (QN.round (i+1) YC ⟨J9,rfl,(Xr h0).1,(Xr h0).2⟩ J9)
  ·refine RL.eqv (v':=.bool true) (xZ _ (by simp [h0])) ?_;refine RL.N1 (YE ?_);refine WP.da rfl ?_;refine ab5 ?_;exact QN.aj rfl rfl ⟨_,rfl,by rw [dP h0],rfl⟩
 ·have hc:i=2:=by have:=vX hc;omega
  refine af3 ?_;exact QN.aj rfl rfl ⟨_,rfl,by rw [yS (h1 J9),h2 J9],rfl⟩
def Re(x y:aG):Int:=if ic x.c y.c=0 then ic x.f y.f else ic x.c y.c
theorem PN(m:World)(x y:aG):dg Tryz.prog 181 [rV x,rV y] m fun r m'=>r=.int .i64 (Re x y)∧Ext m [] m':=by
 refine aP.zA Tryz.func181 ?_;refine YG ?_;refine RL.box rfl rfl (fun b m1 hb hC=>⟨_,rfl,?_⟩);refine RL.box rfl rfl (fun b2 m2 BE mQ=>⟨_,rfl,?_⟩);have dd:Ext m [] m1:=hC.new J9;have bM:Ext m1 [] m2:=mQ.new J9;have s1:=hC.size;have C8:bw m1 b 167 (rC x):=hC.here;have hB:bw m2 b 167 (rC x):=C8.ext bM YA;have hD:bw m2 b2 167 (rC y):=mQ.here;have hE:Ext m [] m2:=dd.trans bM YA;clear hC mQ C8 dd bM;refine RL.A1 aa rfl ?_;refine RL.N1 (QN.N1 ?_);refine WP.S1 ?_;refine WP.dI (fun m'=>bw m' b 167 (rC x)∧bw m' b2 167 (rC y)) [] J7 ⟨hB,hD⟩ JJ (fun hQ=>?_);refine RH.pure aa hQ [0] J7 rfl ?_;refine RH.load aa hQ 1 (fun m' h=>h.1.cell 0 rfl) rfl J7 rfl rfl rfl rfl ?_;refine RH.pure aa hQ [2] J7 rfl ?_;refine RH.load aa hQ 3 (fun m' h=>h.2.cell 0 rfl) rfl J7 rfl rfl rfl rfl ?_;refine RH.pure aa hQ [5] J7 rfl ?_;refine RH.load aa hQ 6 (fun m' h=>h.1.cell 1 rfl) rfl J7 rfl rfl rfl rfl ?_;refine RH.pure aa hQ [7] J7 rfl ?_;refine RH.load aa hQ 8 (fun m' h=>h.2.cell 1 rfl) rfl J7 rfl rfl rfl rfl ?_;refine RH.only 4 rfl J7 (fun _=>?_);refine zM (lB m2 x.c y.c) ?_;rintro _ m3 ⟨rfl,rfl⟩;refine ⟨_,rfl,RL.N1 (RH.cont ⟨hB,hD⟩ ?_)⟩;refine RH.only 9 rfl J7 (fun _=>?_);refine zM (lB m3 x.f y.f) ?_;rintro _ m4 ⟨rfl,rfl⟩;refine ⟨_,rfl,RL.N1 (RH.cont ⟨hB,hD⟩ ?_)⟩;refine RH.only 10 rfl J7 (fun _=>?_);refine RL.buildSlice aa [.tmp 9,.tmp 14] [.int .i64 (ic x.c y.c),.int .i64 (ic x.f y.f)] rfl rfl rfl rfl rfl rfl Jz rfl rfl (fun b5 m5 P9 ki=>⟨_,rfl,?_⟩);have ff:Ext m4 [] m5:=ki.new J9;refine RL.N1 (RH.cont ⟨hB.ext ff YA,hD.ext ff YA⟩ ?_);have Rn:Sl m5 [] 1 (.slice (some ⟨b5,0,none⟩) 2 2) [.int .i64 (ic x.c y.c),.int .i64 (ic x.f y.f)]:=Sl.jF (M:=[]) (n:=2) (c:=2) (sz:=1) ki.fc YA YA J9 Jy;refine RH.only 11 rfl J7 (fun _=>?_);refine zM (Q5 m5 _ _ _ Rn) ?_;rintro _ m6 ⟨rfl,rfl⟩;refine ⟨_,rfl,RL.N1 (RH.cont ⟨hB.ext ff YA,hD.ext ff YA⟩ ?_)⟩;refine RH.pure aa hQ [12] J7 rfl ?_;refine RH.done J7 (fun _=>?_);refine QN.N1 ?_;refine WP.ret (YI ?_);exact QN.aj rfl rfl ⟨_,rfl,rfl,hE.trans ff YA⟩
end Go.Proofs.YtgpgladbdoimdaaGreatDoor
namespace Go.Ev
section
open Go.RowKit Go.WideShapes Go.ChangeShapes
variable{H:Type} {enc:TypeId×Value→H} {P:Program}
def World.lS(W:World):World:={W with drawn:=0}
theorem bS.lS(W:World):bS (World.lS W) W:=⟨rfl,rfl,rfl,rfl,yI _⟩
theorem bu.law{f:FuncId}{args:List Value}{Pre:List az}{Post:Value→List az→Prop}(h:bu P f args Pre Post)(hP:∀r H',Post r H'→r=.bool true)(m:World)(ho:au Pre=[])(hp:∀A∈Pre,A.P m []):dg P f args m fun r m'=>r=.bool true∧Ext m [] m':=by
 have hT:Tr m (au Pre) [] m Pre:=Tr.start ⟨fun A hA=>by rw [ho];exact hp A hA,by rw [ho];exact uP,fun k hk=>by rw [ho]at hk;cases hk⟩ (fun _ h=>by cases h);exact (h m [] hT).mono fun r m' ⟨H',hr,ON⟩=>⟨hP _ _ hr,by have:=ON.ext;rwa [ho]at this⟩
theorem Ez{a:Assume}{C:Checked}{os:Os}{f:FuncId}{fn:Func}{s:ChangeSpec}{conds:List PathCond}{apart fresh handsOn again:Bool}{tb:TypeId}{X:World→Array Value→Prop}
  (hX:∀(w w':World) (args:Array Value),w.heap=w'.heap→X w args→X w' args)
  (own:ownKnob C.prog.godebug=none)(started:os.Started)(noInit:C.prog.inits.idxOf? f=none)(VK:C.prog.funcs[f]?=some fn)
  (witness:∃(w:World) (tape:Tape) (i:Input),w.os=os∧(w.forCall tape i).Shaped C.prog∧i.vars=[]∧Input.okWide C.prog (w.forCall tape i) .any w.heap.size f i∧
   ((s.pre enc C.prog fn conds apart (w.forCall tape i).memory i.args∧X (w.forCall tape i).memory i.args)∧sizedMet enc C.prog fn (OpenSpec.ofChange s) apart (w.forCall tape i).memory i.args)∧a.holds C.prog (lone (Frame.enter C.prog f i.args .normal) [] (w.forCall tape i)))
  (hl:laidOutB C.prog=true)(QG:fn.params.toList.all (fun t=>C.prog.readableRec t&&decide (t<C.prog.types.size))=true)
  (hr:fn.resultTypes=#[tb])(XQ:C.prog.underlying tb=some .bool)(hv:s.vars=[])
  (Sg:∀ds:List (DataW H),ds.length=fn.params.toList.length→(s.fn H ds).results=[.lit (.bool true)]∧(s.fn H ds).args=ds∧(s.fn H ds).vars=[])
  (hc:∀(W:World) (base:Nat) (args:Array Value) (ds:List (DataW H)) (p:List MemPlace),(∀(j:Nat) t v,fn.params[j]?=some t→args[j]?=some v→Value.okWide C.prog W .any base t v)→
   DataW.TrodAll enc C.prog W 0 (fun _=>true) true fn.params.toList args.toList ds p→(DataW.weightsEach C.prog fn.params.toList ds).all (·≤reachBytes)=true→X W args→
   dg C.prog f args.toList (World.lS W) fun r m'=>r=.bool true∧Ext (World.lS W) [] m'):
  ReturnsInHanded a C os f .any (fun w args=>(s.pre enc C.prog fn conds apart w args∧X w args)∧sizedMet enc C.prog fn (OpenSpec.ofChange s) apart w args) (s.post enc C.prog fn apart fresh handsOn again):=by
 refine returnsInHanded_of_change_and hX own started noInit VK witness ?_;intro W base args ds gs before BF hW _ hw hx _;have U9:=hW;obtain ⟨p,q,hA,hV,rfl,hfz,qv⟩:=hW;rw [hv]at hV;obtain ⟨rfl,rfl⟩:=trodVars_none hV;have Ue:s.plain.varTypes C.prog=[]:=by
  have:s.plain.vars=[]:=hv;simp [DataSpec.varTypes,this]
 rw [Ue,vI,vI]at hw;have hlen:ds.length=fn.params.toList.length:=pC hA;obtain ⟨h1,h2,h3⟩:=Sg ds hlen;have hF:=hc W base args ds p BF hA hw hx;refine (hF.2 W (bS.lS W)).mono fun e W' ⟨m',hs,v,he,Ue,hE⟩=>⟨v,he,?_⟩
 subst Ue;have hb:Below W.heap.size W W':=⟨hs.os.trans hE.os,hs.tape.trans hE.tape,hs.output.trans hE.output,by rw [hs.heap];exact hE.size,fun k hk=>by rw [hs.heap];exact hE.ej k hk YA⟩;rw [vI]at U9;have aM:∀x∈p,x.block<W.heap.size:=fun x hx=>U9.lt x hx
 refine rz (pa:=p) (pv:=[]) U9 (fun b sp hd=>?_) (fun sp ze=>?_) (fun sp _=>?_) YA hb (ok_one hr rfl (okWide_bool_mk XQ true))
 ·rw [vI,h1,hr];exact trodAll_mk1 (shut_bool XQ true)
 ·rw [vI,h2];exact l8 hl hb QG hA aM ze
 ·rw [vI,h3,hv];rfl
end
end Go.Ev
namespace Go.Ev
section
open Go.RowKit
variable{P:Program} {fn:Func} {post:Ending→World→Prop} {T:Ty} {n:Nat} {e:Env} {m0 m:World} {M0 X:List Nat} {H:List az} {t u:Tmp} {ty tb:TypeId} {b:Nat} {cs:List Value} {v:Value}
theorem bY.cg(hT:T.Ok P)(hS:Tr m0 M0 X m H)(hr:fn.results=#[.cell t ty,.tmp u])(ht:e.get t=some (.pointer (some ⟨b,0,none⟩)))
  (KN:T.jB ty=some cs.length)(hu:e.get u=some v)(hB:ab b tb cs∈H){D:Fr}:bY P fn n e D m (.tuple #[.agg cs.toArray,v]):=by
 intro a w hf hs;obtain ⟨r,iQ,ha,cz⟩:=Ty.ec KN;have h1:=(hT.row iQ).cD (pW.cT ha) w;rw [ha]at h1;have h2:=(hT.row iQ).bX w;rw [cz]at h2;have h3:=run_loadCells_list (P:=P) w ⟨b,0,none⟩ cs (fun j x hx=>(hs.cell _).trans JP);simp [results,hr,hf.get t _ ht,hf.get u _ hu,asAddr,loadVar,h1,h2,h3]
theorem bY.MI(hT:T.Ok P)(hS:Tr m0 M0 X m H)(hr:fn.results=#[.cell t ty])(ht:e.get t=some (.pointer (some ⟨b,0,none⟩)))
  (KN:T.jB ty=some cs.length)(hB:ab b tb cs∈H){D:Fr}:bY P fn n e D m (.agg cs.toArray):=by
 intro a w hf hs;obtain ⟨r,iQ,ha,cz⟩:=Ty.ec KN;have h1:=(hT.row iQ).cD (pW.cT ha) w;rw [ha]at h1;have h2:=(hT.row iQ).bX w;rw [cz]at h2;have h3:=run_loadCells_list (P:=P) w ⟨b,0,none⟩ cs (fun j x hx=>(hs.cell _).trans JP);simp [results,hr,hf.get t _ ht,asAddr,loadVar,h1,h2,h3]
theorem QN.bH(h:bY P fn n e ⟨[],none⟩ m v)(hp:post (.returned v) m):QN (mb P fn post) .ret n e ⟨[],none⟩ m:=
 fun a w hf hs=>⟨hf.defers,v,h a w hf hs,m,hs,hp⟩
end
section
open Go.RowKit
variable{P:Program} {ops:Array Oper} {Q:Exit→Act→World→Prop} {rest:List Oper} {n:Nat} {e e':Env} {D:Fr} {m:World} {d:Option Tmp} {ty:TypeId} {pos:String} {aft:Array Edge} {g:Option (Nat×Bool)} {v:Value}
theorem RL.ext{f:FuncId}{fn:Func}{fo:Operand}{xs:Array Operand}{ts:Array TypeId}{vs:List Value}{ex:Array Value→Sem Value}(hf:P.funcs[f]?=some fn)(Fx:(fn.name== "runtime.NumGoroutine")=false)
  (hb:fn.body.isNone=true)(hn:Extern.findNext fn=none)(hex:Extern.find fn=some ex)(hg:gd ops e ⟨d,.call ⟨.value fo,xs,ts⟩,ty,pos,aft,g⟩=some true)(nk:e.ev fo=some (.func (.func f) #[] #[]))(fI:e.kj xs.toList=some vs)
  (hr:∀w,(ex vs.toArray).run P w=.ok v w)(hp:aQ n d v e=some e')(h:RL P ops Q rest n e' D m):RL P ops Q (⟨d,.call ⟨.value fo,xs,ts⟩,ty,pos,aft,g⟩::rest) n e D m:=by
 refine RL.value v hg (fun a w pf hs=>?_) hp h;have fO:=run_callFunc_extern hf Fx hb hn hex vs.toArray w;rw [hr]at fO;have tO:xs.map a.eval=vs.toArray:=xO (by rw [xP];simpa using pf.kj fI);simp only [Result.andThen_ok]at fO;simp [execOp,resolve,pf.ev nk,Deferred.ofValue,invoke,tO,fO]
end
section
open Go.RowKit
variable{P:Program} {Q:Exit→Act→World→Prop} {l:List Oper} {n:Nat} {e:Env} {D:Fr} {m0 m:World} {M0 X:List Nat} {H:List az}
theorem WP.bG{id:Nat}(L:List az)(hS:Tr m0 M0 X m H)(hL:an H L)(hm:P.follows .mixedOrders=true)(h:RH P l.toArray (Ev.calm Q) (JS m0 M0 X L) [] l.length (Array.replicate l.length false) n e D m):WP P (.region id l.toArray true) Q n e D m:=
 WP.calm (WP.draw (JS m0 M0 X L) [] hm ⟨H,hS,hL⟩ h)
theorem QN.vu{X:Type}{n':Nat}{D':Fr}{E:X→Env}{J:X→World→Prop}{id:Nat}(h:QN Q .ret n e D m):QN (AV E J n' D' id Q) .ret n e D m:=h
end
open Go.RowKit
theorem fR{P:Program}{w:World}{r:Nat}{l:Array MapEntry}{c:Nat}(h:w.heap[r]?=some (.map l c)):(getObj r).run P w=.ok (.map l c) w:=by simp [getObj,Sem.run,h]
theorem nG{P:Program}{w:World}{r:Nat}{l:Array MapEntry}{c:Nat}(o:Obj)(h:w.heap[r]?=some (.map l c)):(setObj r o).run P w=.ok () {w with heap:=w.heap.setIfInBounds r o}:=by simp [setObj,Sem.run,h]
structure pQ(P:Program)(kt:TypeId){κ:Type}[DecidableEq κ](enc:κ→Value)(Lv:World→κ→Prop):Prop where
 desc:∃ds,P.underlying kt=some ds∧((∀a b,Instr.sameNow ds (enc a) (enc b)=some (decide (a=b)))∨(∀a b,Instr.sameNow ds (enc a) (enc b)=none))
 eq:∀a b w,Lv w a→Lv w b→(Op.equal kt (enc a) (enc b)).run P w=.ok (decide (a=b)) w
 Lw:∀z a w,(Instr.checkKey z 10000 kt (enc a)).run P w=.ok () w
 bits:∀a,Instr.sameBits 10000 (enc a) (enc a)=true
def UL{κ:Type}(_:World)(_:κ):Prop:=True
abbrev zq(P:Program)(kt:TypeId){κ:Type}[DecidableEq κ](enc:κ→Value):Prop:=pQ P kt enc UL
section
variable{κ:Type} [DecidableEq κ]
def bj(es:List (κ×Value))(k:κ):Option Value:=match es with
 |[]=>none
 |p::r=>if p.1=k then some p.2 else bj r k
def cI(es:List (κ×Value))(k:κ)(v:Value):List (κ×Value):=match es with
 |[]=>[(k,v)]
 |p::r=>if p.1=k then(k,v)::r else p::cI r k v
def mn(es:List (κ×Value))(k:κ):List (κ×Value):=match es with
 |[]=>[]
 |p::r=>if p.1=k then r else p::mn r k
theorem lR(k:κ)(v:Value)(k':κ):∀es:List (κ×Value),bj (cI es k v) k'=if k=k' then some v else bj es k'
 |[]=>by simp [cI,bj]
 |p::r=>by
  have ih:=lR k v k' r;unfold cI
  split
  ·rename_i h
   by_cases hk:k=k'
   ·simp [bj,hk]
   ·simp [bj,hk,h▸hk]
  ·rename_i h
   by_cases hp:p.1=k'
   ·have:k≠k':=fun hh=>h (hp.trans hh.symm)
    simp [bj,hp,this]
   ·simp [bj,hp,ih]
theorem lD{es:List (κ×Value)}{k:κ}:bj es k=none↔k∉es.map Prod.fst:=by
 induction es with
 |nil=>simp [bj]
 |cons p r ih=>
  unfold bj
  split
  ·rename_i h;simp [h]
  ·rename_i h;simp [ih,yM h]
theorem iX{es:List (κ×Value)}{k:κ}(v:Value)(h:k∉es.map Prod.fst):cI es k v=es++[(k,v)]:=by
 induction es with
 |nil=>rfl
 |cons p r ih=>
  simp only [xK,yH,not_or]at h;simp [cI,yM h.1,ih h.2]
theorem tf(k:κ)(v:Value):∀es:List (κ×Value),(cI es k v).map Prod.fst=if k∈es.map Prod.fst then es.map Prod.fst else es.map Prod.fst++[k]
 |[]=>by simp [cI]
 |p::r=>by
  have ih:=tf k v r;unfold cI
  split
  ·rename_i h;simp [h]
  ·rename_i h;simp only [xK,ih,yH,yM h,false_or]
   split<;>simp
theorem qL{es:List (κ×Value)}(h:(es.map Prod.fst).Nodup)(k:κ)(v:Value):((cI es k v).map Prod.fst).Nodup:=by
 rw [tf]
 split
 ·exact h
 ·rename_i hk;exact yN.2 ⟨h,YA,fun a ha b hb=>by
   simp only [zT]at hb;subst hb;exact fun hh=>hk (hh▸ha)⟩
theorem FC{es:List (κ×Value)}(k:κ):∀p∈mn es k,p∈es:=by
 induction es with
 |nil=>simp [mn]
 |cons q r ih=>
  intro p hp;unfold mn at hp
  split at hp
  ·exact zO _ hp
  ·rcases yH.1 hp with rfl|hp
   ·exact zS ..
   ·exact zO _ (ih p hp)
theorem rL{es:List (κ×Value)}(h:(es.map Prod.fst).Nodup)(k:κ):((mn es k).map Prod.fst).Nodup:=by
 induction es with
 |nil=>exact h
 |cons q r ih=>
  simp only [xK,yO]at h;unfold mn
  split
  ·exact h.2
  ·simp only [xK,yO];refine ⟨fun hm=>h.1 ?_,ih h.2⟩;obtain ⟨p,hp,he⟩:=vE.1 hm;exact vE.2 ⟨p,FC k p hp,he⟩
def kr(enc:κ→Value)(l:List MapEntry)(es:List (κ×Value)):Prop:=l.map (fun e=>(e.key,e.val))=es.map fun p=>(enc p.1,p.2)
omit[DecidableEq κ]in
theorem kr.cons{enc:κ→Value}{e:MapEntry}{l:List MapEntry}{es:List (κ×Value)}(h:kr enc (e::l) es):∃k v r,es=(k,v)::r∧e.key=enc k∧e.val=v∧kr enc l r:=by
 unfold kr at h;cases es with
 |nil=>cases h
 |cons p r=>
  simp only [xK,List.cons.injEq,yK]at h;exact ⟨p.1,p.2,r,rfl,h.1.1,h.1.2,h.2⟩
def gm(k:κ):List (κ×Value)→Nat→Option (Nat×Value)
 |[],_=>none
 |p::r,i=>if p.1=k then some (i,p.2)else gm k r (i+1)
theorem jo{k:κ}:∀{es:List (κ×Value)} {i:Nat},gm k es i=none→bj es k=none∧∀v,cI es k v=es++[(k,v)]∧mn es k=es
 |[],_,_=>⟨rfl,fun _=>⟨rfl,rfl⟩⟩
 |p::r,i,h=>by
  unfold gm at h
  split at h
  ·cases h
  ·rename_i hp;obtain ⟨h1,h2⟩:=jo h;exact ⟨by simp [bj,hp,h1],fun v=>⟨by simp [cI,hp,(h2 v).1],by simp [mn,hp,(h2 v).2]⟩⟩
theorem jD{k:κ}:∀{es:List (κ×Value)} {i j:Nat} {v:Value},gm k es i=some (j,v)→bj es k=some v∧i≤j∧es[j-i]?=some (k,v)∧(∀u,cI es k u=es.set (j-i) (k,u))∧mn es k=es.eraseIdx (j-i)
 |p::r,i,j,v,h=>by
  unfold gm at h
  split at h
  ·rename_i hp;simp only [yJ,yK]at h;obtain ⟨rfl,rfl⟩:=h;refine ⟨by simp [bj,hp],yP _,by simp [←hp],fun u=>by simp [cI,hp],by simp [mn,hp]⟩
  ·rename_i hp;obtain ⟨h1,h2,h3,h4,h5⟩:=jD h;have e:j-i=(j-(i+1))+1:=by omega
   exact ⟨by simp [bj,hp,h1],J9,by rw [e];simpa using h3,fun u=>by rw [e];simp [cI,hp,h4 u],by rw [e];simp [mn,hp,h5]⟩
variable{P:Program} {kt:TypeId} {enc:κ→Value} {Lv:World→κ→Prop}
theorem kz(K:pQ P kt enc Lv)(k:κ)(w:World)(ib:Lv w k):∀(l:List MapEntry) (es:List (κ×Value)) (i:Nat),(∀p∈es,Lv w p.1)→kr enc l es→(Instr.findAsking kt (enc k) l i).run P w=.ok (gm k es i) w
 |[],es,i,_,h=>by
  cases es with
  |nil=>simp [Instr.findAsking,gm]
  |cons p r=>cases h
 |e::l,es,i,hl,h=>by
  obtain ⟨k',v,r,rfl,hk,hv,hr⟩:=h.cons;have ih:=kz K k w ib l r (i+1) (fun p hp=>hl p (zO _ hp)) hr;have h0:=hl (k',v) (zS ..);unfold Instr.findAsking gm;simp only [Sem.run_bind,hk,K.eq _ _ _ ib h0,Result.andThen_ok,hv]
  by_cases sD:k'=k
  ·subst sD;simp
  ·rw [zV (yM sD)];simp [sD,ih]
theorem rB{ds:TypeDesc}(hd:∀a b,Instr.sameNow ds (enc a) (enc b)=some (decide (a=b)))(k:κ):∀(l:List MapEntry) (es:List (κ×Value)) (i:Nat),kr enc l es→Instr.findNow ds (enc k) l i=some (gm k es i)
 |[],es,i,h=>by
  cases es with
  |nil=>simp [Instr.findNow,gm]
  |cons p r=>cases h
 |e::l,es,i,h=>by
  obtain ⟨k',v,r,rfl,hk,hv,hr⟩:=h.cons;have ih:=rB hd k l r (i+1) hr;unfold Instr.findNow gm;rw [hk,hd,hv]
  by_cases sD:k'=k
  ·subst sD;simp
  ·rw [zV (yM sD)];simp [sD,ih]
theorem run_findKey{es:List (κ×Value)}(K:pQ P kt enc Lv)(k:κ)(w:World)(ib:Lv w k)(hl:∀p∈es,Lv w p.1){l:List MapEntry}(h:kr enc l es):(Instr.findKey kt (enc k) l).run P w=.ok (gm k es 0) w:=by
 obtain ⟨ds,hd,hc⟩:=K.desc;unfold Instr.findKey;simp only [Sem.run_bind,run_underlying hd,Result.andThen_ok];rcases hc with hc|hc
 ·rw [rB hc k l es 0 h];simp
 ·cases l with
  |nil=>
   cases es with
   |nil=>simp [Instr.findNow,gm]
   |cons p r=>cases h
  |cons e l=>
   obtain ⟨k',v,r,rfl,hk,hv,hr⟩:=h.cons;have h0:Instr.findNow ds (enc k) (e::l) 0=none:=by unfold Instr.findNow;rw [hk,hc]
   rw [h0];exact kz K k w ib _ _ 0 hl h
def iL(m:World)(r:Nat)(enc:κ→Value)(es:List (κ×Value)):Prop:=
 ∃(l:List MapEntry) (clock:Nat),m.heap[r]?=some (.map l.toArray clock)∧kr enc l es∧(es.map Prod.fst).Nodup∧(l.map (·.born)).Nodup∧∀e∈l,e.born<clock
def mapA(r:Nat)(enc:κ→Value)(es:List (κ×Value)):az where
 own:=[r]
 P:=fun m _=>iL m r enc es
 lt:=fun⟨_,_,h,_⟩ k hk=>by
  have:k=r:=by simpa using hk
  subst this;exact (wI.1 h).1
 dC:=fun⟨l,c,h,h2⟩ hE hn _ _=>⟨l,c,(hE.ej r (wI.1 h).1 (hn r YA)).trans h,h2⟩
theorem jM(K:pQ P kt enc Lv){t et:TypeId}{z:Value}(ht:P.underlying t=some (.map kt et))(hz:∀w,(zeroValue et).run P w=.ok z w){m w:World}{r:Nat}{es:List (κ×Value)}(hM:iL m r enc es)(hs:bS m w)(k:κ)(ib:Lv w k)(hl:∀p∈es,Lv w p.1)(ok:Bool):
  (Instr.lookup t (.map (some r)) (enc k) ok).run P w=.ok (if ok then .tuple #[(bj es k).getD z,.bool (bj es k).isSome]else(bj es k).getD z) w:=by
 obtain ⟨l,c,hr,he,_⟩:=hM;have hg:(getObj r).run P w=.ok (.map l.toArray c) w:=fR (by rw [hs.heap];exact hr);unfold Instr.lookup;simp only [Sem.run_bind,run_underlying ht,Result.andThen_ok,hg,Sem.run_pure,K.Lw,run_findKey K k w ib hl he];cases hf:gm k es 0 with
 |none=>
  rw [(jo hf).1];cases ok<;>simp [hz]
 |some p=>
  obtain ⟨j,v⟩:=p;rw [(jD hf).1];cases ok<;>simp
def dB(m:World)(b:Nat)(o:Obj):World:={m with heap:=m.heap.setIfInBounds b o}
theorem gD.dB{m:World}{b:Nat}{o0:Obj}(h:m.heap[b]?=some o0)(o:Obj):gD m b o (dB m b o):=by
 have aM:=(wI.1 h).1;refine ⟨rfl,rfl,rfl,?_,fun k hk=>?_,?_,iF.refl _⟩
 ·simp [Ev.dB,aM]
 ·simp [Ev.dB,yM hk]
 ·simp [Ev.dB];omega
theorem bS.dB{m w:World}(h:bS m w)(b:Nat)(o:Obj):bS (dB m b o) (dB w b o):=⟨by simp [Ev.dB,h.heap],h.os,h.output,h.tape,h.drawn⟩
theorem va(K:pQ P kt enc Lv)(k:κ)(w:World):(Instr.keyThatStays (enc k) (enc k)).run P w=.ok (enc k) w:=by simp [Instr.keyThatStays,K.bits]
omit[DecidableEq κ]in
theorem kr.set{l:List MapEntry}{es:List (κ×Value)}(h:kr enc l es){j:Nat}{k:κ}{v0 v:Value}(hj:es[j]?=some (k,v0)):
  kr enc (l.toArray.modify j fun e=>{e with key:=enc k,val:=v}).toList (es.set j (k,v))∧(l.toArray.modify j fun e=>{e with key:=enc k,val:=v}).toList.map (·.born)=l.map (·.born):=by
 have hl:l.length=es.length:=by have:=xZ List.length h;simpa using this
 have aM:j<es.length:=(yV.1 hj).1;have e:(l.toArray.modify j fun e=>{e with key:=enc k,val:=v}).toList=l.modify j fun e=>{e with key:=enc k,val:=v}:=by simp
 rw [e];constructor
 ·unfold kr at h ⊢;refine uQ fun i=>?_
  have hi:=xZ (fun z=>z[i]?) h;simp only [xM,List.getElem?_modify,uR]at hi ⊢
  by_cases E8:j=i
  ·subst E8;have PB:j<l.length:=by omega
   simp [aM,xW PB]
  ·simp only [E8,wE];cases Kf:l[i]?<;>cases hei:es[i]?<;>simp_all
 ·refine uQ fun i=>?_
  simp only [xM,List.getElem?_modify];cases l[i]?<;>simp<;>split<;>rfl
theorem l0(K:pQ P kt enc Lv){t et:TypeId}(ht:P.underlying t=some (.map kt et)){m:World}{r:Nat}{es:List (κ×Value)}(hM:iL m r enc es)(k:κ)(v:Value):
  ∃m' o,gD m r o m'∧iL m' r enc (cI es k v)∧∀w,bS m w→Lv w k→(∀p∈es,Lv w p.1)→∃w',(Instr.mapUpdate t (.map (some r)) (enc k) v).run P w=.ok () w'∧bS m' w':=by
 obtain ⟨l,c,hr,he,hn,hb,hc⟩:=hM;cases hf:gm k es 0 with
 |none=>
  obtain ⟨h1,h2⟩:=jo hf;have h3:=lD.1 h1;let o:Obj:=.map (l++[(⟨enc k,v,c⟩:MapEntry)]).toArray (c+1);have hC:=gD.dB hr o;refine ⟨dB m r o,o,hC,⟨_,_,hC.here,?_,?_,?_,?_⟩,fun w hs ib n5=>⟨dB w r o,?_,hs.dB r o⟩⟩
  ·rw [(h2 v).1];unfold kr at he ⊢;simp [he]
  ·exact qL hn k v
  ·rw [uJ];refine yN.2 ⟨hb,YA,fun a ha b V8=>?_⟩;obtain ⟨x,hx,rfl⟩:=vE.1 ha;have:=hc x hx;simp at V8;omega
  ·intro x hx;rcases yL.1 hx with hx|hx
   ·have:=hc x hx;omega
   ·simp at hx;subst hx;simp
  ·have hw:w.heap[r]?=some (.map l.toArray c):=by rw [hs.heap];exact hr
   unfold Instr.mapUpdate;simp only [Sem.run_bind,run_underlying ht,Result.andThen_ok,fR hw,K.Lw,run_findKey K k w ib n5 he,hf,nG _ hw,Ev.dB];simp [o]
 |some p=>
  obtain ⟨j,v0⟩:=p;obtain ⟨_,_,h3,h4,_⟩:=jD hf;simp only [Nat.sub_zero]at h3 h4;let o:Obj:=.map (l.toArray.modify j fun e=>{e with key:=enc k,val:=v}) c;have hC:=gD.dB hr o;obtain ⟨s1,s2⟩:=he.set (v:=v) h3;have hl:l.length=es.length:=by have:=xZ List.length he;simpa using this
  have aM:j<es.length:=(yV.1 h3).1;have XY:l[j]?=some l[j]:=xW J9;have ZZ:(l[j]'(by omega)).key=enc k:=by
   have:=xZ (fun z=>z[j]?) he;simp [h3,XY]at this;exact this.1
  refine ⟨dB m r o,o,hC,⟨_,_,by simpa [o]using hC.here,by rw [h4];exact s1,qL hn k v,s2▸hb,fun x hx=>?_⟩,fun w hs ib n5=>⟨dB w r o,?_,hs.dB r o⟩⟩
  ·have:x.born∈l.map (·.born):=s2▸vE.2 ⟨x,hx,rfl⟩;obtain ⟨y,hy,e⟩:=vE.1 this;rw [←e];exact hc y hy
  ·have hw:w.heap[r]?=some (.map l.toArray c):=by rw [hs.heap];exact hr
   unfold Instr.mapUpdate;simp only [Sem.run_bind,run_underlying ht,Result.andThen_ok,fR hw,K.Lw,run_findKey K k w ib n5 he,hf];simp only [List.getElem?_toArray,XY,uS,uD,ZZ,va K k,Result.andThen_ok,nG _ hw,Ev.dB];simp [o]
theorem map_eraseIdx{α β:Type}(f:α→β):∀(l:List α) (j:Nat),(l.eraseIdx j).map f=(l.map f).eraseIdx j
 |[],_=>rfl
 |a::r,0=>rfl
 |a::r,j+1=>by simp [map_eraseIdx f r j]
theorem Co(K:pQ P kt enc Lv){t et:TypeId}(ht:P.underlying t=some (.map kt et)){m:World}{r:Nat}{es:List (κ×Value)}(hM:iL m r enc es)(k:κ):
  ∃m' o,gD m r o m'∧iL m' r enc (mn es k)∧∀w t2 ty,bS m w→Lv w k→(∀p∈es,Lv w p.1)→∃w',(Builtin.delete_ #[t,t2] ty #[.map (some r),enc k]).run P w=.ok (.tuple #[]) w'∧bS m' w':=by
 obtain ⟨l,c,hr,he,hn,hb,hc⟩:=hM;cases hf:gm k es 0 with
 |none=>
  obtain ⟨h1,h2⟩:=jo hf;let o:Obj:=.map l.toArray c;have hC:=gD.dB hr o;refine ⟨dB m r o,o,hC,⟨l,c,hC.here,by rw [(h2 undef).2];exact he,rL hn k,hb,hc⟩,fun w t2 ty hs ib n5=>⟨dB w r o,?_,hs.dB r o⟩⟩;have hw:w.heap[r]?=some (.map l.toArray c):=by rw [hs.heap];exact hr
  unfold Builtin.delete_;simp only [List.getElem?_toArray,wZ,uH];simp only [Sem.run_bind,run_underlying ht,Result.andThen_ok,fR hw,K.Lw,run_findKey K k w ib n5 he,hf,nG _ hw,Ev.dB];simp [o]
 |some p=>
  obtain ⟨j,v0⟩:=p;obtain ⟨_,_,h3,_,h5⟩:=jD hf;simp only [Nat.sub_zero]at h3 h5;let o:Obj:=.map (l.eraseIdx j).toArray c;have hC:=gD.dB hr o;have hl:l.length=es.length:=by have:=xZ List.length he;simpa using this
  have aM:j<es.length:=(yV.1 h3).1;refine ⟨dB m r o,o,hC,⟨_,_,hC.here,?_,rL hn k,?_,fun x hx=>hc x (List.mem_of_mem_eraseIdx hx)⟩,fun w t2 ty hs ib n5=>⟨dB w r o,?_,hs.dB r o⟩⟩
  ·rw [h5];unfold kr at he ⊢;rw [map_eraseIdx,he,map_eraseIdx]
  ·rw [map_eraseIdx];exact hb.sublist (List.eraseIdx_sublist _ _)
  ·have hw:w.heap[r]?=some (.map l.toArray c):=by rw [hs.heap];exact hr
   have ZL:(l.toArray.eraseIdxIfInBounds j)=(l.eraseIdx j).toArray:=by simp
   unfold Builtin.delete_;simp only [List.getElem?_toArray,wZ,uH];simp only [Sem.run_bind,run_underlying ht,Result.andThen_ok,fR hw,K.Lw,run_findKey K k w ib n5 he,hf,ZL,nG _ hw,Ev.dB];simp [o]
end
section
variable{κ:Type} [DecidableEq κ] {enc:κ→Value} {P:Program} {T:Ty} {ops:Array Oper} {Q:Exit→Act→World→Prop} {l rest:List Oper} {n:Nat} {e e':Env} {D:Fr} {ds:List Deferred} {m0 m m':World} {M0 X:List Nat} {H H' F L:List az}
 {d:Option Tmp} {x y z:Operand} {t ty kt et:TypeId} {pos:String} {aft:Array Edge} {g:Option (Nat×Bool)} {v u:Value} {rt re:Row} {fin:List Nat} {fuel:Nat} {listed:Array Bool} {r:Nat} {es:List (κ×Value)} {k:κ}
omit[DecidableEq κ]in
theorem Tr.Cn{es':List (κ×Value)}(h:Tr m0 M0 X m H)(hr:kq (mapA r enc es) (mapA r enc es') H H'){o:Obj}(hC:gD m r o m')(hM:iL m' r enc es'):Tr m0 M0 X m' H':=by
 obtain ⟨F,h1,h2⟩:=hr.perms;exact ((h.perm h1).gG (A:=mapA r enc es) (B:=mapA r enc es') (by simpa [mapA]using hC.ext) rfl hM).perm h2
theorem RL.lookup(hT:T.Ok P)(hS:Tr m0 M0 X m H)(K:zq P kt enc){ok:Bool}(hg:gd ops e ⟨d,.lookup t x y ok,ty,pos,aft,g⟩=some true)(dD:T.row t=some rt)(hk:rt.k=.map kt et)(HI:T.row et=some re)
  (hx:e.ev x=some (.map (some r)))(hy:e.ev y=some (enc k))(hm:mapA r enc es∈H)(hv:(if ok then .tuple #[(bj es k).getD re.zero,.bool (bj es k).isSome]else(bj es k).getD re.zero)=v)(hp:aQ n d v e=some e')
  (h:RL P ops Q rest n e' D m):RL P ops Q (⟨d,.lookup t x y ok,ty,pos,aft,g⟩::rest) n e D m:=by
 have hu:=(hT.row dD).k;rw [hk]at hu;refine RL.value v hg (fun a w hf hs=>?_) hp h;have h1:=jM K hu (fun w=>(hT.row HI).gW w) (hS.mem hm) hs k trivial (fun _ _=>trivial) ok;rw [hv]at h1;simp [execOp,hf.ev hx,hf.ev hy,h1]
theorem RH.lookup(hT:T.Ok P)(hQ:ai Q)(K:zq P kt enc){i:Nat}{ok:Bool}(_:gP GS ops fin listed.toList (hY ops listed.toList)=some i)(hB:(be ops&&bq ops fin listed [i])=true)(hi:ops[i]?=some ⟨d,.lookup t x y ok,ty,pos,aft,g⟩)(hg:gd ops e ⟨d,.lookup t x y ok,ty,pos,aft,g⟩=some true)(dD:T.row t=some rt)(hk:rt.k=.map kt et)(HI:T.row et=some re)
  (hx:e.ev x=some (.map (some r)))(hy:e.ev y=some (enc k))(hm:mapA r enc es∈L)(hv:(if ok then .tuple #[(bj es k).getD re.zero,.bool (bj es k).isSome]else(bj es k).getD re.zero)=v)(hp:aQ n d v e=some e')
  (h:RH P ops Q (JS m0 M0 X L) fin fuel (listed.setIfInBounds i true) n e' D m):RH P ops Q (JS m0 M0 X L) fin (fuel+1) listed n e D m:=by
 have hu:=(hT.row dD).k;rw [hk]at hu;simp only [bq,wR,wY]at hB;refine RH.take hi hB.1 hB.2.1 hB.2.2 hQ (fun a hf=>.inl ⟨cZ hf hg,fun w ⟨m',hs,H,ON,hL⟩=>?_⟩) hp h;have h1:=jM K hu (fun w=>(hT.row HI).gW w) (ON.mem (hL.mem hm)) hs k trivial (fun _ _=>trivial) ok;rw [hv]at h1;simp [execOp,hf.ev hx,hf.ev hy,h1]
theorem RL.mapUpdate(hT:T.Ok P)(hS:Tr m0 M0 X m H)(K:zq P kt enc)(hg:gd ops e ⟨d,.mapUpdate t x y z,ty,pos,aft,g⟩=some true)(dD:T.row t=some rt)(hk:rt.k=.map kt et)
  (hx:e.ev x=some (.map (some r)))(hy:e.ev y=some (enc k))(hz:e.ev z=some v)(hm:mapA r enc es∈H)(hr:kq (mapA r enc es) (mapA r enc (cI es k v)) H H')(hp:aQ n d undef e=some e')
  (h:∀m',Tr m0 M0 X m' H'→RL P ops Q rest n e' D m'):RL P ops Q (⟨d,.mapUpdate t x y z,ty,pos,aft,g⟩::rest) n e D m:=by
 have hu:=(hT.row dD).k;rw [hk]at hu;obtain ⟨m',o,hC,hM,hw⟩:=l0 K hu (hS.mem hm) k v;refine RL.Cy m' hg (fun a w hf hs=>?_) hp (h m' (hS.Cn hr hC hM));obtain ⟨w',h1,h2⟩:=hw w hs trivial (fun _ _=>trivial);exact ⟨w',by simp [execOp,hf.ev hx,hf.ev hy,hf.ev hz,h1],h2⟩
theorem RH.fD{J:World→Prop}(hT:T.Ok P)(hS:Tr m0 M0 X m H)(K:zq P kt enc){i:Nat}(_:hY ops listed.toList=[i])(OE:Region.ready .any ops listed=[i])(hi:ops[i]?=some ⟨d,.mapUpdate t x y z,ty,pos,aft,g⟩)(hg:gd ops e ⟨d,.mapUpdate t x y z,ty,pos,aft,g⟩=some true)(dD:T.row t=some rt)(hk:rt.k=.map kt et)
  (hx:e.ev x=some (.map (some r)))(hy:e.ev y=some (enc k))(hz:e.ev z=some v)(hm:mapA r enc es∈H)(hr:kq (mapA r enc es) (mapA r enc (cI es k v)) H H')(hp:aQ n d undef e=some e')(hB:(fin.contains i&&(Region.ready .any ops (listed.setIfInBounds i true)).isEmpty)=true)
  (h:∀m',Tr m0 M0 X m' H'→QN Q .normal n e' D m'):RH P ops Q J fin (fuel+1) listed n e D m:=
 RH.only i hi (by simpa using OE) fun _=>RL.mapUpdate hT hS K hg dD hk hx hy hz hm hr hp fun m' h1=>RL.N1 (RF.last hB (h m' h1))
theorem RL.delete(hT:T.Ok P)(hS:Tr m0 M0 X m H)(K:zq P kt enc){t2:TypeId}(hg:gd ops e ⟨d,.call ⟨.builtin .delete,#[x,y],#[t,t2]⟩,ty,pos,aft,g⟩=some true)(dD:T.row t=some rt)(hk:rt.k=.map kt et)
  (hx:e.ev x=some (.map (some r)))(hy:e.ev y=some (enc k))(hm:mapA r enc es∈H)(hr:kq (mapA r enc es) (mapA r enc (mn es k)) H H')(hp:aQ n d (.tuple #[]) e=some e')
  (h:∀m',Tr m0 M0 X m' H'→RL P ops Q rest n e' D m'):RL P ops Q (⟨d,.call ⟨.builtin .delete,#[x,y],#[t,t2]⟩,ty,pos,aft,g⟩::rest) n e D m:=by
 have hu:=(hT.row dD).k;rw [hk]at hu;obtain ⟨m',o,hC,hM,hw⟩:=Co K hu (hS.mem hm) k;refine RL.fX _ m' hg (fun a w hf hs=>?_) hp (h m' (hS.Cn hr hC hM));obtain ⟨w',h1,h2⟩:=hw w t2 ty hs trivial (fun _ _=>trivial);refine ⟨w',?_,h2⟩;simp [execOp,resolve,invoke,builtin,hf.ev hx,hf.ev hy,h1]
omit[DecidableEq κ]in
theorem RL.makeMap(hS:Tr m0 M0 X m H)(enc:κ→Value)(hg:gd ops e ⟨d,.makeMap t none,ty,pos,aft,g⟩=some true)
  (h:∀r m',Tr m0 M0 X m' (mapA r enc []::H)→∃e',aQ n d (.map (some r)) e=some e'∧RL P ops Q rest n e' D m'):RL P ops Q (⟨d,.makeMap t none,ty,pos,aft,g⟩::rest) n e D m:=by
 have hC:=gD.alloc m (.map #[] 0);have hM:iL (m.alloc (.map #[] 0)) m.heap.size enc []:=⟨[],0,hC.here,rfl,YA,YA,YA⟩;have iG:Tr m0 M0 X (m.alloc (.map #[] 0)) (mapA m.heap.size enc []::H):=hS.new (hC.new (yP _)) (fun k hk=>Nat.le_of_eq (show m.heap.size=k from(zT.1 hk).symm)) (by simp [mapA]) hM;obtain ⟨e',hp,hk⟩:=h _ _ iG;refine RL.fX _ _ hg (fun a w hf hs=>⟨_,?_,hs.alloc _⟩) hp hk;simp [execOp,Instr.makeMap,hs.size]
end
def lJ(B:Nat)(r:Loop):az where
 own:=[B,B+1]
 P:=fun m _=>m.heap[B]?=some (.deferred (some []))∧m.heap[B+1]?=some (.loop r)
 lt:=fun h k hk=>by
  have h1:=(wI.1 h.1).1;have h2:=(wI.1 h.2).1;simp only [yH,uT,uU]at hk;rcases hk with rfl|rfl<;>assumption
 dC:=fun h hE hn _ _=>⟨(hE.ej _ (wI.1 h.1).1 (hn _ YA)).trans h.1,(hE.ej _ (wI.1 h.2).1 (hn _ YA)).trans h.2⟩
def X4(B:Nat):az where
 own:=[B,B+1]
 P:=fun m _=>B+1<m.heap.size
 lt:=fun h k hk=>by
  simp only [yH,uT,uU]at hk;rcases hk with rfl|rfl
  ·exact Nat.lt_of_succ_lt h
  ·exact h
 dC:=fun h hE _ _ _=>wH h hE.size
section
variable{m0 m:World} {M0 X:List Nat} {H F:List az} {B:Nat} {r r':Loop}
theorem qV{l:Nat}{o:Obj}(h:l<m.heap.size):gD m l o (m.putObj l o):=
 ⟨rfl,rfl,rfl,World.putObj_heap_same h,fun k hk=>World.putObj_heap_other hk,J6,iF.refl _⟩
theorem Tr.OW(h:Tr m0 M0 X m (lJ B r::H)):Tr m0 M0 X (m.putObj (B+1) (.loop r')) (lJ B r'::H):=by
 have h1:(lJ B r).P m (au (lJ B r::H)++X):=h.head;have hC:=qV (m:=m) (o:=.loop r') (wI.1 h1.2).1;exact h.gG (A:=lJ B r) (B:=lJ B r') (hC.ext.mono fun k hk _=>by simp [lJ]at hk ⊢;exact .inr hk) rfl ⟨(World.putObj_heap_other J9).trans h1.1,hC.here⟩
theorem Tr.recAt(h:Tr m0 M0 X m (F++lJ B r::H)):Tr m0 M0 X (m.putObj (B+1) (.loop r')) (F++lJ B r'::H):=
 ((h.perm (vU (a:=lJ B r))).OW (r':=r')).perm (vU (a:=lJ B r')).symm
theorem Tr.my(h:Tr m0 M0 X m (F++lJ B r::H)):m.heap[B]?=some (.deferred (some []))∧m.heap[B+1]?=some (.loop r):=h.mem (A:=lJ B r) YA
theorem Tr.leave(h:Tr m0 M0 X m (lJ B r::H)):Tr m0 M0 X (m.putObj B (.deferred none)) H:=by
 have h1:(lJ B r).P m (au (lJ B r::H)++X):=h.head;have hC:=qV (m:=m) (o:=.deferred none) (wI.1 h1.1).1;have qv:=(yN.1 (aS (lJ B r) H▸h.hold.nd)).1;have:=h.gG (A:=lJ B r) (B:=X4 B) (hC.ext.mono fun k hk _=>by simp [lJ]at hk ⊢;exact .inl hk) rfl (by
  have:=(wI.1 h1.2).1
  simpa [X4]using this)
 exact this.tail
theorem Tr.lay(h:Tr m0 M0 X m H)(rec:Loop)(hB:B=m.heap.size):Tr m0 M0 X ((m.alloc (.deferred (some []))).alloc (.loop rec)) (lJ B rec::H):=by
 subst hB;have ph:=gD.alloc m (.deferred (some []));have mQ:=gD.alloc (m.alloc (.deferred (some []))) (.loop rec);have hs:(m.alloc (.deferred (some []))).heap.size=m.heap.size+1:=by rw [World.size_alloc]
 rw [hs]at mQ;have hE:Ext m [] ((m.alloc (.deferred (some []))).alloc (.loop rec)):=(ph.new (yP _)).trans (mQ.new J9) YA;refine h.new (B:=lJ m.heap.size rec) hE (fun k hk=>?_) ?_ ⟨(mQ.ej _ J9).trans ph.here,mQ.here⟩
 ·simp only [lJ,yH,uT,uU]at hk;rcases hk with rfl|rfl<;>omega
 ·simp [lJ]
end
def PS{α:Type}(P:Program)(gf:FuncId)(lb:List Value)(encs:α→List Value)(V:List α→α→Prop)(S:List α→Prop)(need:List α→List az→Prop):Prop:=
 ∀(l:Nat) (I Ix:List α→List az→Prop) (m0 m:World) (M0 X:List Nat) (H:List az),I [] H→Tr m0 M0 X m H→(∀pre H,I pre H→need pre H)→
  (∀pre x F m H,I pre H→V pre x→Tr m0 M0 X m (F++H)→Ut P l (encs x) m fun ed m'=>∃H',Tr m0 M0 X m' (F++H')∧((ed=.returned (.bool true)∧I (pre++[x]) H')∨(ed=.returned (.bool false)∧Ix (pre++[x]) H')))→
  dg P gf (.func (.yield l) #[] #[]::lb) m fun _ m'=>(∃xs H',S xs∧I xs H'∧Tr m0 M0 X m' H')∨∃pre H',Ix pre H'∧Tr m0 M0 X m' H'
def Mi{α:Type}(m0:World)(M0 X:List Nat)(G:List az)(C:az)(I:List α→List az→Prop)(Ix:Code→List α→List az→Prop)(pre:List α):Exit→Act→World→Prop
 |.normal,_,w=>∃m' H',bS m' w∧Tr m0 M0 X m' (G++C::H')∧I pre H'
 |.ret,_,w=>∃m' H',bS m' w∧Tr m0 M0 X m' (G++C::H')∧Ix .ret pre H'
 |.exit id,_,w=>∃m' H',bS m' w∧Tr m0 M0 X m' (G++C::H')∧Ix (.exit id) pre H'
 |_,_,_=>False
section
variable{α β:Type} {m0 m':World} {M0 X:List Nat} {G G2 H H':List az} {C:az} {I:List α→List az→Prop} {Ix:Code→List α→List az→Prop} {pre:List α} {n:Nat} {e:Env} {D:Fr}
theorem QN.fY(hS:Tr m0 M0 X m' (G++C::H'))(hi:I pre H'):QN (Mi m0 M0 X G C I Ix pre) .normal n e D m':=fun _ _ _ hs=>⟨m',H',hs,hS,hi⟩
theorem QN.Ve(hS:Tr m0 M0 X m' (G++C::H'))(hi:Ix .ret pre H'):QN (Mi m0 M0 X G C I Ix pre) .ret n e D m':=fun _ _ _ hs=>⟨m',H',hs,hS,hi⟩
theorem QN.RW{id:Nat}(hS:Tr m0 M0 X m' (G++C::H'))(hi:Ix (.exit id) pre H'):QN (Mi m0 M0 X G C I Ix pre) (.exit id) n e D m':=fun _ _ _ hs=>⟨m',H',hs,hS,hi⟩
def qE{β:Type}(m0:World)(M0 X:List Nat)(R:List az)(n:Nat)(D:Fr)(EA:β→Env)(IA:β→List az→Prop):Exit→Act→World→Prop:=Exit.then (fun a w=>∃y m2 G2,Fits n (EA y) D a∧bS m2 w∧Tr m0 M0 X m2 (G2++R)∧IA y G2) (fun _ _ _=>False)
theorem QN.qE{R:List az}{EA:β→Env}{IA:β→List az→Prop}(y:β)(G2:List az)(hs:Sub (EA y) e)(hS:Tr m0 M0 X m' (G2++R))(hi:IA y G2):QN (Ev.qE m0 M0 X R n D EA IA) .normal n e D m':=fun _ _ hf hw=>⟨y,m',G2,hf.sub hs,hw,hS,hi⟩
theorem WP.jt{P:Program}{Q:Exit→Act→World→Prop}{ds:List Deferred}{m:World}{g:Operand}{ps:List Tmp}{assign body:Code}{gf:FuncId}{lb:List Value}{V:List α→α→Prop}{S:List α→Prop}{need:List α→List az→Prop}
  (encs:α→List Value)(hg:e.ev g=some (.func (.func gf) #[] lb.toArray))(hit:PS P gf lb encs V S need)(UH:dq P gf)(hS:Tr m0 M0 X m H)
  (I:List α→List az→Prop)(Ix:Code→List α→List az→Prop)(h0:I [] H)(gn:∀pre H C,I pre H→need pre (C::H))
  (E:α→Env)(hE:∀x,pd n ps (encs x) e=some (E x))(sU:∀x,(encs x).length=ps.length)(EA:α→β→Env)(IA:α→β→List az→Prop)
  (p8:∀l C pre x G m1 H1,I pre H1→V pre x→Tr m0 M0 X m1 (G++C::H1)→WP P assign (Ev.qE m0 M0 X (G++C::H1) n ⟨[],some l⟩ (EA x) (IA x)) n (E x) ⟨[],some l⟩ m1)
  (CG:∀l C pre x y G2 G m2 H1,I pre H1→V pre x→IA x y G2→Tr m0 M0 X m2 (G2++(G++C::H1))→WP P body (Mi m0 M0 X G C I Ix (pre++[x])) n (EA x y) ⟨[],some l⟩ m2)
  (DK:∀B r xs m' H1,S xs→I xs H1→Tr m0 M0 X m' (lJ B r::H1)→QN Q .normal n e ⟨{target:=.collected B,args:=#[]}::ds,none⟩ m')
  (Da:∀B r c pre m' H1,Ix c pre H1→Tr m0 M0 X m' (lJ B r::H1)→WP P c Q n e ⟨{target:=.collected B,args:=#[]}::ds,none⟩ m'):
  WP P (.rangeFunc g ps.toArray assign body) Q n e ⟨ds,none⟩ m:=by
 intro a w hf hw;refine wpIn_rangeFunc (F:=bJ none) ?_;intro fn _;obtain ⟨B,hB⟩:∃B,m.heap.size=B:=⟨_,rfl⟩;have cz:w.heap.size=B:=by rw [hw.heap,hB]
 obtain ⟨rec,ji⟩:=zP (fun st pe=>{state:=st,pending:=pe,fn,tmps:=a.tmps,params:=ps.toArray,assign,body,defers:=B}:LoopState→Option Code→Loop);obtain ⟨mW,MS⟩:=zP ((m.alloc (.deferred (some []))).alloc (.loop (rec .ready none)));have WS:bS mW ((w.alloc (.deferred (some []))).alloc (.loop (rec .ready none))):=by rw [MS];exact (hw.alloc _).alloc _
 have YQ:Tr m0 M0 X mW (lJ B (rec .ready none)::H):=by rw [MS];exact hS.lay _ hB.symm
 have PX:a.eval g=.func (.func gf) #[] lb.toArray:=hf.ev hg;refine ⟨B+1,[{target:=.collected B,args:=#[]}],(w.alloc (.deferred (some []))).alloc (.loop (rec .ready none)),{target:=.fn (.func gf) lb.toArray,args:=#[.func (.yield (B+1)) #[] #[]]},(w.alloc (.deferred (some []))).alloc (.loop (rec .ready none)),gf,
  #[.func (.yield (B+1)) #[] #[]]++lb.toArray,(w.alloc (.deferred (some []))).alloc (.loop (rec .ready none)),?_,?_,fun _ _=>trivial,?_,fun hh=>(by cases hh),?_⟩
 ·have:=run_enterLoop_outer (P:=P) (w:=w) fn a.tmps ps.toArray assign body;rw [cz]at this;rw [ji];exact this
 ·simp only [resolve,PX];simp [go_sem]
 ·exact o6 UH _ _ _
 ·have fO:=hit (B+1) (fun pre K=>∃H1,K=lJ B (rec .ready none)::H1∧I pre H1) (fun pre K=>∃H1 c,K=lJ B (rec .done (some c))::H1∧Ix c pre H1) m0 mW M0 X _ ⟨H,rfl,h0⟩ YQ
   (fun pre K ⟨H1,hK,hi⟩=>hK▸gn pre H1 _ hi) ?_
  ·have hc:=Calls.fr ⟨[],none⟩ (0-1) (fO.2 _ WS);have iB:(Value.func (Fn.yield (B+1)) #[] #[]::lb).toArray=#[.func (.yield (B+1)) #[] #[]]++lb.toArray:=by simp
   rw [iB]at hc;refine CallsIn.mono hc ?_;rintro ed w2 ⟨m2,xz,v,rfl,⟨xs,K,Ys,⟨H1,rfl,hi⟩,Kk⟩|⟨pre,K,⟨H1,c,rfl,hi⟩,Kk⟩⟩
   ·have vg:w2.heap[B+1]?=some (.loop (rec .ready none)):=by rw [xz.heap];exact (Tr.my (F:=[]) Kk).2
    have j0:=run_endLoop (P:=P) vg (by rw [ji];simp);refine ⟨none,w2.putObj (B+1) (.loop {rec .ready none with state:=.exhausted}),by rw [j0,ji],?_⟩;have hq:=DK B _ xs _ H1 Ys hi (Kk.OW (r':={rec .ready none with state:=.exhausted}));exact hq _ _ ⟨hf.size,by show _++_=_::ds;rw [hf.defers];rfl,hf.get⟩ (xz.putObj _ _)
   ·have vg:w2.heap[B+1]?=some (.loop (rec .done (some c))):=by rw [xz.heap];exact (Tr.my (F:=[]) Kk).2
    have j0:=run_endLoop (P:=P) vg (by rw [ji];simp);refine ⟨some c,w2.putObj (B+1) (.loop {rec .done (some c)with state:=.exhausted}),by rw [j0,ji],?_⟩;have hq:=Da B _ c pre _ H1 hi (Kk.OW (r':={rec .done (some c)with state:=.exhausted}));exact hq _ _ ⟨hf.size,by show _++_=_::ds;rw [hf.defers];rfl,hf.get⟩ (xz.putObj _ _)
  ·
   rintro pre x F c K ⟨H1,rfl,hi⟩ hlen XS wc OM;have UU:wc.heap[B+1]?=some (.loop (rec .ready none)):=by rw [OM.heap];exact XS.my.2
   have hy:=run_yield (P:=P) (args:=(encs x).toArray) UU (by rw [ji];simpa using sU x);rw [ji]at hy;refine ⟨fn,_,assign,body,hy,roundIn_of_wpIn (n:=0) trivial ?_⟩;clear hy;have L6:Fits n (E x) ⟨[],some (B+1)⟩ {tmps:=(ps.zip (encs x)).foldl (fun t (x:Tmp×Value)=>t.setIfInBounds x.1 x.2) a.tmps,defers:=[]}:=
    u5 ps (encs x) e (E x) a.tmps ⟨hf.size,rfl,hf.get⟩ (hE x)
   have has:=p8 (B+1) _ pre x F c H1 hi hlen XS _ wc L6 OM;have Nt:(ps.toArray.zip (encs x).toArray).foldl (fun tmps (t,a)=>tmps.setIfInBounds t a) a.tmps=(ps.zip (encs x)).foldl (fun t (x:Tmp×Value)=>t.setIfInBounds x.1 x.2) a.tmps:=by
    simp [List.zip_toArray]
   rw [Nt];refine wpIn_mono has ?_;intro ex a1 w1 hq;cases ex with
   |normal=>
    obtain ⟨y,c1,G2,IT,qo,P4,YU⟩:=hq;rw [←wM]at P4;have PJ:w1.heap[B+1]?=some (.loop (rec .ready none)):=by rw [qo.heap];exact P4.my.2
    refine ⟨_,run_beginRound PJ (by rw [ji]),?_⟩;have Kk:=P4.recAt (r':={rec .ready none with state:=.busy});have hb:=CG (B+1) _ pre x y G2 F _ H1 hi hlen YU (wM ..▸Kk) _ _ IT (qo.putObj _ _);refine wpIn_mono hb ?_;have fin:∀(jump:Option Code) (c3 w3:World) (H3:List az),bS c3 w3→Tr m0 M0 X c3 (F++lJ B {rec .ready none with state:=.busy}::H3)→
      (Instr.endRound (B+1) jump).run P w3=.ok (.bool jump.isNone) (w3.putObj (B+1) (.loop (rec (if jump.isNone then .ready else .done) jump)))∧
      Tr m0 M0 X (c3.putObj (B+1) (.loop (rec (if jump.isNone then .ready else .done) jump))) (F++lJ B (rec (if jump.isNone then .ready else .done) jump)::H3):=fun jump c3 w3 H3 pU Mj=>by
     have Ou:w3.heap[B+1]?=some (.loop {rec .ready none with state:=.busy}):=by rw [pU.heap];exact Mj.my.2
     have j0:=run_endRound (P:=P) jump Ou;rw [ji]at j0 ⊢;exact ⟨j0,Mj.recAt⟩
    intro ex3 a3 w3 Ej;cases ex3 with
    |normal=>
     obtain ⟨c3,H3,pU,Mj,GH⟩:=Ej;obtain ⟨h1,h2⟩:=fin none c3 w3 H3 pU Mj;exact ⟨_,_,h1,_,pU.putObj _ _,_,h2,.inl ⟨rfl,H3,rfl,GH⟩⟩
    |ret=>
     obtain ⟨c3,H3,pU,Mj,GH⟩:=Ej;obtain ⟨h1,h2⟩:=fin (some .ret) c3 w3 H3 pU Mj;exact ⟨_,_,h1,_,pU.putObj _ _,_,h2,.inr ⟨rfl,H3,_,rfl,GH⟩⟩
    |exit id=>
     obtain ⟨c3,H3,pU,Mj,GH⟩:=Ej;obtain ⟨h1,h2⟩:=fin (some (.exit id)) c3 w3 H3 pU Mj;exact ⟨_,_,h1,_,pU.putObj _ _,_,h2,.inr ⟨rfl,H3,_,rfl,GH⟩⟩
    |goto t=>exact Ej.elim
    |panic ch=>exact Ej.elim
    |outgrown=>exact Ej.elim
   |exit id=>exact hq.elim
   |goto t=>exact hq.elim
   |ret=>exact hq.elim
   |panic ch=>exact hq.elim
   |outgrown=>exact hq.elim
theorem QN.jq{P:Program}{fn:Func}{post:Ending→World→Prop}{m:World}{B:Nat}{rc:Loop}{r:Value}{x:Exit}(hx:x=.ret∨x=.normal)(hS:Tr m0 M0 X m (lJ B rc::H))
  (h:∀m',Tr m0 M0 X m' H→bY P fn n e ⟨[{target:=.collected B,args:=#[]}],none⟩ m' r∧post (.returned r) m'):QN (oE P fn post) x n e ⟨[{target:=.collected B,args:=#[]}],none⟩ m:=by
 intro a w hf hs;have hk:=(Tr.my (F:=[]) hS).1;have Qm:w.heap[B]?=some (.deferred (some [])):=by rw [hs.heap];exact hk
 have key:LeavesInM Fence.wide 0 P fn a.tmps (fun e w'=>∃m',bS m' w'∧post e m') a.defers .returning w:=by
  rw [hf.defers];refine ⟨YA,.inl ⟨B,_,rfl,run_takeDeferred Qm,?_⟩⟩;obtain ⟨h1,h2⟩:=h (m.putObj B (.deferred none)) hS.leave;exact ⟨r,h1 a _ hf (hs.putObj _ _),_,hs.putObj _ _,h2⟩
 rcases hx with rfl|rfl
 ·exact key
 ·exact key
end
section
variable{P:Program} {T:Ty} {ops:Array Oper} {Q:Exit→Act→World→Prop} {rest:List Oper} {n:Nat} {e e':Env} {D:Fr} {m0 m:World} {M0 X:List Nat} {H:List az}
 {d:Option Tmp} {x y:Operand} {tp te yt ty:TypeId} {pos:String} {aft:Array Edge} {g:Option (Nat×Bool)} {r:Row}
theorem RL.QR(hT:T.Ok P)(hS:Tr m0 M0 X m H){b1 b2:Nat}{t1 t2:TypeId}{c1 c2:List Value}{j:TypeInfo}(hg:gd ops e ⟨d,.binOp .eql tp x y yt,ty,pos,aft,g⟩=some true)
  (hx:e.ev x=some (.pointer (some ⟨b1,0,none⟩)))(hy:e.ev y=some (.pointer (some ⟨b2,0,none⟩)))(dD:T.row tp=some r)(hk:r.k=.ptr te)(Ti:P.info? te=some j)(hz:(j.size==0)=false)(h1:ab b1 t1 c1∈H)(h2:ab b2 t2 c2∈H)
  (hp:aQ n d (.bool (decide (b1=b2))) e=some e')(h:RL P ops Q rest n e' D m):RL P ops Q (⟨d,.binOp .eql tp x y yt,ty,pos,aft,g⟩::rest) n e D m:=by
 have hu:=(hT.row dD).k;rw [hk]at hu;refine RL.value (.bool (decide (b1=b2))) hg (fun a w hf hs=>?_) hp h;have hq:(eqGuard .eql tp x y (.pointer (some ⟨b1,0,none⟩)) (.pointer (some ⟨b2,0,none⟩))).run P w=.ok () w:=by simp [eqGuard]
 have hr:(Go.binOp .eql tp (.pointer (some ⟨b1,0,none⟩)) (.pointer (some ⟨b2,0,none⟩))).run P w=.ok (.bool (decide (b1=b2))) w:=by
  by_cases hb:b1=b2
  ·subst hb;rw [zW rfl];exact run_eql_ptr_same w _ hu Ti
  ·rw [zV hb];have g1:bw m b1 t1 c1:=hS.mem h1;have g2:bw m b2 t2 c2:=hS.mem h2;exact run_eql_ptr_other w hu Ti (by simpa using hz) (fun hh=>hb (xZ Addr.block hh)) (by rw [hs.heap];exact g1) (by rw [hs.heap];exact g2)
 unfold execOp;simp [hf.ev hx,hf.ev hy,hr,hq]
end
end Go.Ev
namespace Go.Proofs.YtgpgladbdoimdaaGreatDoor
open Go.RowKit Go.Ev Go.Ids
def RK(b1 b2:Nat)(v:Value)(l:List aG)(k:FuncId)(a:World):Prop:=bw a b1 46 [v]∧bw a b2 165 [.func (.func k) #[] #[]]∧Rs a [] v l
theorem D7(m:World)(b1 b2:Nat)(v:Value)(l:List aG)(hl:l.length<1000000000)(k:FuncId)(p:aG→Bool)(hf:∀m1 x,dg Tryz.prog k [rV x] m1 fun r m2=>r=.bool (p x)∧Ext m1 [] m2):
  NA Tryz.prog 217 [.pointer (some ⟨b1,0,none⟩),.pointer (some ⟨b2,0,none⟩)] (fun x:aG=>[rV x]) false (RK b1 b2 v l k) (fun pre _=>pre.length<l.length) (fun xs=>xs=l.filter p) (fun _=>True) m:=by
 intro lp J Jx m1 _ hJ YR hK BG h0;have ib:=hK _ _ h0;obtain ⟨A,c,rfl,_,_⟩:=ib.2.2.shape;refine aP.zA Tryz.func217 ?_;refine YG ?_;refine RL.load aa rfl rfl rfl (ib.1.cell 0 rfl) rfl ?_;refine RL.A1 aa rfl ?_;refine RL.N1 (YE ?_);refine WP.loop (X:=Nat) (fun i=>[(0,.func (.yield lp) #[] #[]),(1,.pointer (some ⟨b1,0,none⟩)),(2,.pointer (some ⟨b2,0,none⟩)),(6,.slice A l.length c),(7,.int .i64 l.length),(8,.int .i64 i)])
  (fun i m'=>i≤l.length∧J ((l.take i).filter p) m') (fun i=>l.length-i) 0 YC ⟨YA,h0⟩ ?_
 rintro i m2 ⟨hi,hj⟩;have hk:=hK _ _ hj;refine YG ?_;refine RL.A1 aa rfl ?_;refine RL.N1 (YE ?_);refine WP.cond rfl (fun hc=>?_) (fun hc=>?_)
 ·have hc:i<l.length:=by have:=xS hc;omega
  obtain ⟨ad,rfl,hx⟩:=hk.2.2.cell i hc;have bo:(l.take (i+1)).filter p=(l.take i).filter p++(if p l[i]then[l[i]]else[]):=by
   rw [vN hc,xX];cases h:p l[i]<;>simp [h]
  refine ab7 ?_;refine ab0 ?_;refine RL.aJ aa (rC l[i]) rfl rfl rfl hx rfl ?_;refine RL.alloc aa rfl rfl (fun b5 m3 P9 sP=>⟨_,rfl,?_⟩);refine RL.bF aa (b:=b5) (i:=0) (vs:=rC l[i]) (cs:=[.int .u64 0,.int .u64 0,.int .u64 0]) sP.fc rfl rfl rfl rfl rfl YA Jv rfl ?_;intro m4 jf;have eQ:Ext m2 [] m4:=(sP.new J9).trans jf.ext (fun q hq=>.inr (by have h9:q=b5:=J3;omega));have mo:bw m4 b5 167 (rC l[i]):=jf.fc;have SQ:=hJ _ _ _ hj eQ;have LZ:=hK _ _ SQ;refine RL.N1 (YE ?_);refine RL.load aa rfl rfl rfl (LZ.2.1.cell 0 rfl) rfl ?_;refine RL.aJ aa (rC l[i]) rfl rfl rfl (fun j u hu=>by rw [av];exact mo.cell _ J2) rfl ?_;refine zM (hf m4 l[i]) ?_;rintro _ m5 ⟨rfl,ff⟩;refine ⟨_,rfl,?_⟩;have yf:=mo.ext ff YA;have sV:=hJ _ _ _ SQ ff;refine RL.pure aa 1 rfl ?_
  by_cases hp:p l[i]=true
  ·refine RL.eqv (v':=.bool true) (xZ _ hp) ?_;refine ab3 ?_;refine RL.aJ aa (rC l[i]) rfl rfl rfl (fun j u hu=>by rw [av];exact yf.cell _ J2) rfl ?_;refine RL.yield rfl rfl rfl (BG _ l[i] m5 sV (Nat.lt_of_le_of_lt (xD _ _) J6)) ?_ (by rintro ch m6 (⟨h,_⟩|⟨h,_⟩)<;>cases h) (by rintro m6 (⟨h,_⟩|⟨h,_⟩)<;>cases h);rintro _ m6 (⟨h6,Ng,_⟩|⟨h6,Ng⟩)
   ·injection h6 with h6
    subst h6;refine aa1 ?_;refine ae3 ?_;rw [bo,yS hp];exact Ng
   ·injection h6 with h6
    subst h6;refine ai2 ?_;refine WP.da rfl ?_;refine WP.ret (YI ?_);exact QN.GK rfl ⟨_,rfl,.inr ⟨_,trivial,Ng⟩⟩
  ·refine RL.eqv (v':=.bool false) (xZ _ (vR _▸hp)) ?_;refine ae3 ?_;rw [bo,zX hp,vI];exact sV
 ·have hc:i=l.length:=by have:=vX hc;omega
  subst hc;rw [wF]at hj;refine ac2 ?_;exact QN.kg rfl ⟨_,rfl,.inl ⟨_,rfl,hj⟩⟩
theorem Ia(m:World)(v:Value)(l:List aG)(k:FuncId):dg Tryz.prog 179 [v,.func (.func k) #[] #[]] m fun r m'=>∃b1 b2,r=.func (.func 217) #[] #[.pointer (some ⟨b1,0,none⟩),.pointer (some ⟨b2,0,none⟩)]∧m.heap.size≤b1∧m.heap.size≤b2∧Ext m [] m'∧(Rs m [] v l→RK b1 b2 v l k m'):=by
 refine aP.zA Tryz.func179 ?_;refine YG ?_;refine RL.box rfl rfl (fun b1 m1 Ew ph=>⟨_,rfl,?_⟩);refine RL.box rfl rfl (fun b2 m2 BE mQ=>⟨_,rfl,?_⟩);have dd:Ext m [] m1:=ph.new J9;have bM:Ext m1 [] m2:=mQ.new J9;have s1:=ph.size;refine RL.A1 aa rfl ?_;refine RL.N1 (YE ?_);refine RL.A1 aa rfl ?_;refine RL.N1 (YE ?_);refine WP.ret (YI ?_);refine QN.aj rfl rfl ⟨_,rfl,b1,b2,rfl,J9,J9,dd.trans bM YA,fun h=>⟨?_,mQ.here,(h.bQ dd).bQ bM⟩⟩;obtain ⟨A,c,rfl,_,_⟩:=h.shape;exact bw.ext (cs:=[.slice A l.length c]) ph.here bM YA
end Go.Proofs.YtgpgladbdoimdaaGreatDoor
namespace Go.Ids
open Go.Ev
theorem tY{α:Type}[DecidableEq α]:∀{a b:List α},a.Nodup→(∀x∈a,x∈b)→a.length≤b.length
 |[],_,_,_=>yI _
 |x::a,b,h,hs=>by
  have hx:=hs x (zS ..);have h2:=yO.1 h;have:=tY (a:=a) (b:=b.erase x) h2.2 (fun y hy=>(List.mem_erase_of_ne (fun e=>h2.1 (by subst e;exact hy))).2 (hs y (zO _ hy)));rw [List.length_erase_of_mem hx]at this;have:=List.length_pos_of_mem hx;simp only [yF];omega
end Go.Ids
