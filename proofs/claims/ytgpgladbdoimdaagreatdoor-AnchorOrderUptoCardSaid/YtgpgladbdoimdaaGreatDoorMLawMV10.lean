/- Texts that belong together. -/
import Derived.Test.YtgpgladbdoimdaaGreatDoorMLawMV7
import Derived.Shelf.SlGeneric
import Derived.Shelf.SlLaysF0
import Derived.Ground.SlsfProg
import Derived.Ground.NamesProg
import Derived.Shelf.Lays
import Derived.Test.YtgpgladbdoimdaaGreatDoorProg
import Derived.Shelf.Unicode.ValidAny
import Derived.Shelf.SlSortCmp.WholeK
import Derived.Shelf.SlSortCmp.NoneTotal
namespace Go.Proofs
open Go.Shelf
def Tryz.D8:Go.Shelf.Ren:=⟨fun|6=>170|15=>214|14=>213|28=>242|29=>243|20=>234|21=>235|22=>236|23=>237|24=>238|25=>239|26=>240|27=>241|46=>265|47=>266|48=>267|49=>268|50=>269|57=>283|n=>n,fun|22=>45|24=>122|25=>238|3=>3|39=>127|0=>0|53=>65|55=>28|4=>4|46=>288|45=>287|50=>39|5=>5|9=>9|66=>311|70=>314|76=>326|77=>327|n=>n,fun|n=>n⟩
theorem Tryz.Tn:Go.Proofs.SlLaysF0.n6 Tryz.prog Tryz.D8:={
 mixed:=by kernel_rfl
 f6:=⟨Tryz.f170.name,J8,Tryz.func170.trans (xZ some J7)⟩
 f14:=⟨Tryz.f213.name,J8,Tryz.func213.trans (xZ some J7)⟩
 f15:=Tryz.func214.trans (xZ some J7)
 f20:=⟨Tryz.f234.name,J8,Tryz.func234.trans (xZ some J7)⟩
 f21:=⟨Tryz.f235.name,J8,Tryz.func235.trans (xZ some J7)⟩
 f22:=⟨Tryz.f236.name,J8,Tryz.func236.trans (xZ some J7)⟩
 f23:=⟨Tryz.f237.name,J8,Tryz.func237.trans (xZ some J7)⟩
 f24:=⟨Tryz.f238.name,J8,Tryz.func238.trans (xZ some J7)⟩
 f25:=⟨Tryz.f239.name,J8,Tryz.func239.trans (xZ some J7)⟩
 f26:=⟨Tryz.f240.name,J8,Tryz.func240.trans (xZ some J7)⟩
 f27:=⟨Tryz.f241.name,J8,Tryz.func241.trans (xZ some J7)⟩
 f28:=Tryz.func242.trans (xZ some J7)
 f29:=Tryz.func243.trans (xZ some J7)
 f46:=⟨Tryz.f265.name,J8,Tryz.func265.trans (xZ some J7)⟩
 f47:=Tryz.func266.trans (xZ some J7)
 f48:=Tryz.func267.trans (xZ some J7)
 f49:=⟨Tryz.f268.name,J8,Tryz.func268.trans (xZ some J7)⟩
 f50:=⟨Tryz.f269.name,J8,Tryz.func269.trans (xZ some J7)⟩
 f57:=⟨Tryz.f283.name,J8,Tryz.func283.trans (xZ some J7)⟩
 t0:=Tryz.underlying0
 a0:=Tryz.isAgg0
 z0:=Tryz.sizeOf0
 v0:=Tryz.zeroValue0
 t3:=Tryz.underlying3
 a3:=Tryz.isAgg3
 z3:=Tryz.sizeOf3
 v3:=Tryz.zeroValue3
 t4:=Tryz.underlying4
 a4:=Tryz.isAgg4
 z4:=Tryz.sizeOf4
 v4:=Tryz.zeroValue4
 t5:=Tryz.underlying5
 a5:=Tryz.isAgg5
 z5:=Tryz.sizeOf5
 v5:=Tryz.zeroValue5
 t9:=Tryz.underlying9
 a9:=Tryz.isAgg9
 z9:=Tryz.sizeOf9
 v9:=Tryz.zeroValue9
 t22:=Tryz.underlying45
 a22:=Tryz.isAgg45
 z22:=Tryz.sizeOf45
 v22:=Tryz.zeroValue45
 t25:=Tryz.underlying238
 a25:=Tryz.isAgg238
 z25:=Tryz.sizeOf238
 v25:=Tryz.zeroValue238
 t39:=Tryz.underlying127
 a39:=Tryz.isAgg127
 z39:=Tryz.sizeOf127
 v39:=Tryz.zeroValue127
 t45:=Tryz.underlying287
 a45:=Tryz.isAgg287
 z45:=Tryz.sizeOf287
 v45:=Tryz.zeroValue287
 t46:=Tryz.underlying288
 a46:=Tryz.isAgg288
 z46:=Tryz.sizeOf288
 v46:=Tryz.zeroValue288
 t50:=Tryz.underlying39
 a50:=Tryz.isAgg39
 z50:=Tryz.sizeOf39
 v50:=Tryz.zeroValue39
 t53:=Tryz.underlying65
 a53:=Tryz.isAgg65
 z53:=Tryz.sizeOf65
 v53:=Tryz.zeroValue65
 t55:=Tryz.underlying28
 a55:=Tryz.isAgg28
 z55:=Tryz.sizeOf28
 v55:=Tryz.zeroValue28
 t66:=Tryz.underlying311
 a66:=Tryz.isAgg311
 z66:=Tryz.sizeOf311
 v66:=Tryz.zeroValue311
 t70:=Tryz.underlying314
 a70:=Tryz.isAgg314
 z70:=Tryz.sizeOf314
 v70:=Tryz.zeroValue314
 t76:=Tryz.underlying326
 a76:=Tryz.isAgg326
 z76:=Tryz.sizeOf326
 v76:=Tryz.zeroValue326
 t77:=Tryz.underlying327
 a77:=Tryz.isAgg327
 z77:=Tryz.sizeOf327
 v77:=Tryz.zeroValue327}
def Tryz.Ep:Go.Shelf.Ren:=⟨fun|6=>180|15=>214|14=>218|28=>242|29=>243|20=>244|21=>245|22=>246|23=>247|24=>248|25=>249|26=>250|27=>251|46=>270|47=>266|48=>267|49=>271|50=>272|57=>284|n=>n,fun|22=>46|24=>167|25=>248|3=>3|39=>127|0=>0|53=>65|55=>28|4=>4|46=>288|45=>287|50=>39|5=>5|9=>9|66=>311|70=>314|76=>326|77=>327|n=>n,fun|n=>n⟩
theorem Tryz.RR:Go.Proofs.SlLaysF0.n6 Tryz.prog Tryz.Ep:={
 mixed:=by kernel_rfl
 f6:=⟨Tryz.f180.name,J8,Tryz.func180.trans (xZ some J7)⟩
 f14:=⟨Tryz.f218.name,J8,Tryz.func218.trans (xZ some J7)⟩
 f15:=Tryz.func214.trans (xZ some J7)
 f20:=⟨Tryz.f244.name,J8,Tryz.func244.trans (xZ some J7)⟩
 f21:=⟨Tryz.f245.name,J8,Tryz.func245.trans (xZ some J7)⟩
 f22:=⟨Tryz.f246.name,J8,Tryz.func246.trans (xZ some J7)⟩
 f23:=⟨Tryz.f247.name,J8,Tryz.func247.trans (xZ some J7)⟩
 f24:=⟨Tryz.f248.name,J8,Tryz.func248.trans (xZ some J7)⟩
 f25:=⟨Tryz.f249.name,J8,Tryz.func249.trans (xZ some J7)⟩
 f26:=⟨Tryz.f250.name,J8,Tryz.func250.trans (xZ some J7)⟩
 f27:=⟨Tryz.f251.name,J8,Tryz.func251.trans (xZ some J7)⟩
 f28:=Tryz.func242.trans (xZ some J7)
 f29:=Tryz.func243.trans (xZ some J7)
 f46:=⟨Tryz.f270.name,J8,Tryz.func270.trans (xZ some J7)⟩
 f47:=Tryz.func266.trans (xZ some J7)
 f48:=Tryz.func267.trans (xZ some J7)
 f49:=⟨Tryz.f271.name,J8,Tryz.func271.trans (xZ some J7)⟩
 f50:=⟨Tryz.f272.name,J8,Tryz.func272.trans (xZ some J7)⟩
 f57:=⟨Tryz.f284.name,J8,Tryz.func284.trans (xZ some J7)⟩
 t0:=Tryz.underlying0
 a0:=Tryz.isAgg0
 z0:=Tryz.sizeOf0
 v0:=Tryz.zeroValue0
 t3:=Tryz.underlying3
 a3:=Tryz.isAgg3
 z3:=Tryz.sizeOf3
 v3:=Tryz.zeroValue3
 t4:=Tryz.underlying4
 a4:=Tryz.isAgg4
 z4:=Tryz.sizeOf4
 v4:=Tryz.zeroValue4
 t5:=Tryz.underlying5
 a5:=Tryz.isAgg5
 z5:=Tryz.sizeOf5
 v5:=Tryz.zeroValue5
 t9:=Tryz.underlying9
 a9:=Tryz.isAgg9
 z9:=Tryz.sizeOf9
 v9:=Tryz.zeroValue9
 t22:=Tryz.underlying46
 a22:=Tryz.isAgg46
 z22:=Tryz.sizeOf46
 v22:=Tryz.zeroValue46
 t25:=Tryz.underlying248
 a25:=Tryz.isAgg248
 z25:=Tryz.sizeOf248
 v25:=Tryz.zeroValue248
 t39:=Tryz.underlying127
 a39:=Tryz.isAgg127
 z39:=Tryz.sizeOf127
 v39:=Tryz.zeroValue127
 t45:=Tryz.underlying287
 a45:=Tryz.isAgg287
 z45:=Tryz.sizeOf287
 v45:=Tryz.zeroValue287
 t46:=Tryz.underlying288
 a46:=Tryz.isAgg288
 z46:=Tryz.sizeOf288
 v46:=Tryz.zeroValue288
 t50:=Tryz.underlying39
 a50:=Tryz.isAgg39
 z50:=Tryz.sizeOf39
 v50:=Tryz.zeroValue39
 t53:=Tryz.underlying65
 a53:=Tryz.isAgg65
 z53:=Tryz.sizeOf65
 v53:=Tryz.zeroValue65
 t55:=Tryz.underlying28
 a55:=Tryz.isAgg28
 z55:=Tryz.sizeOf28
 v55:=Tryz.zeroValue28
 t66:=Tryz.underlying311
 a66:=Tryz.isAgg311
 z66:=Tryz.sizeOf311
 v66:=Tryz.zeroValue311
 t70:=Tryz.underlying314
 a70:=Tryz.isAgg314
 z70:=Tryz.sizeOf314
 v70:=Tryz.zeroValue314
 t76:=Tryz.underlying326
 a76:=Tryz.isAgg326
 z76:=Tryz.sizeOf326
 v76:=Tryz.zeroValue326
 t77:=Tryz.underlying327
 a77:=Tryz.isAgg327
 z77:=Tryz.sizeOf327
 v77:=Tryz.zeroValue327}
def Tryz.cr:Go.Shelf.Ren:=⟨fun|196=>221|259=>252|n=>n,fun|9=>9|4=>4|3=>3|5=>5|12=>12|119=>301|0=>0|46=>127|139=>304|138=>303|53=>28|n=>n,fun|3=>1|4=>2|n=>n⟩
theorem Tryz.valid:Go.Proofs.Lays.n196 Tryz.prog Tryz.cr:={
 mixed:=by kernel_rfl
 f196:=Tryz.func221.trans (xZ some J7)
 f259:=Tryz.func252.trans (xZ some J7)
 t0:=Tryz.underlying0
 a0:=Tryz.isAgg0
 z0:=Tryz.sizeOf0
 v0:=Tryz.zeroValue0
 t3:=Tryz.underlying3
 a3:=Tryz.isAgg3
 z3:=Tryz.sizeOf3
 v3:=Tryz.zeroValue3
 t4:=Tryz.underlying4
 a4:=Tryz.isAgg4
 z4:=Tryz.sizeOf4
 v4:=Tryz.zeroValue4
 t5:=Tryz.underlying5
 a5:=Tryz.isAgg5
 z5:=Tryz.sizeOf5
 v5:=Tryz.zeroValue5
 t9:=Tryz.underlying9
 a9:=Tryz.isAgg9
 z9:=Tryz.sizeOf9
 v9:=Tryz.zeroValue9
 t12:=Tryz.underlying12
 a12:=Tryz.isAgg12
 z12:=Tryz.sizeOf12
 v12:=Tryz.zeroValue12
 t46:=Tryz.underlying127
 a46:=Tryz.isAgg127
 z46:=Tryz.sizeOf127
 v46:=Tryz.zeroValue127
 t53:=Tryz.underlying28
 a53:=Tryz.isAgg28
 z53:=Tryz.sizeOf28
 v53:=Tryz.zeroValue28
 t119:=Tryz.underlying301
 a119:=Tryz.isAgg301
 z119:=Tryz.sizeOf301
 t138:=Tryz.underlying303
 a138:=Tryz.isAgg303
 z138:=Tryz.sizeOf303
 v138:=Tryz.zeroValue303
 t139:=Tryz.underlying304
 a139:=Tryz.isAgg304
 z139:=Tryz.sizeOf304
 v139:=Tryz.zeroValue304
 g3:=by kernel_rfl
 g4:=by kernel_rfl}
def Tryz.DZ:Go.Shelf.Ren:=⟨fun|195=>222|n=>n,fun|9=>9|3=>3|0=>0|4=>4|n=>n,fun|n=>n⟩
theorem Tryz.count:Go.Proofs.Lays.n195 Tryz.prog Tryz.DZ:={
 mixed:=by kernel_rfl
 f195:=Tryz.func222.trans (xZ some J7)
 t0:=Tryz.underlying0
 a0:=Tryz.isAgg0
 z0:=Tryz.sizeOf0
 v0:=Tryz.zeroValue0
 t3:=Tryz.underlying3
 a3:=Tryz.isAgg3
 z3:=Tryz.sizeOf3
 v3:=Tryz.zeroValue3
 t4:=Tryz.underlying4
 a4:=Tryz.isAgg4
 z4:=Tryz.sizeOf4
 v4:=Tryz.zeroValue4
 t9:=Tryz.underlying9
 a9:=Tryz.isAgg9
 z9:=Tryz.sizeOf9
 v9:=Tryz.zeroValue9}
end Go.Proofs
namespace Go.Proofs.YtgpgladbdoimdaaGreatDoor
open Go.RowKit Go.Ev
def ER(m:World)(M:List Nat):Prop:=Lib.Utf8Tabs (Tryz.cr.g 3) (Tryz.cr.g 4) m∧Tryz.cr.g 3∉M∧Tryz.cr.g 4∉M∧m.drawn=0
theorem ER.dC{m m':World}{M M' N:List Nat}(h:ER m M)(hE:Ext m N m')(hN:∀k∈N,k<m.heap.size→k∈M)(hM:∀k∈M',k∈M∨m.heap.size≤k):ER m' M':=by
 obtain ⟨⟨h1,h2⟩,h3,h4,h5⟩:=h;have l3:Tryz.cr.g 3<m.heap.size:=World.block_lt_of_cell? m _ (h1 0 J9);have l4:Tryz.cr.g 4<m.heap.size:=World.block_lt_of_cell? m _ (h2 0 J9).1;have n3:Tryz.cr.g 3∉N:=fun hh=>h3 (hN _ hh l3)
 have n4:Tryz.cr.g 4∉N:=fun hh=>h4 (hN _ hh l4)
 refine ⟨⟨fun c hc=>hE.cell n3 (h1 c hc),fun i hi=>⟨hE.cell n4 (h2 i hi).1,hE.cell n4 (h2 i hi).2⟩⟩,fun hh=>?_,fun hh=>?_,hE.drawn.2 h5⟩
 ·rcases hM _ hh with g|g
  ·exact h3 g
  ·omega
 ·rcases hM _ hh with g|g
  ·exact h4 g
  ·omega
def aw:az where
 own:=[]
 P:=ER
 lt:=fun _ k hk=>by cases hk
 dC:=fun h hE _ hN hM=>h.dC hE hN hM
theorem FJ{m w:World}{M:List Nat}(h:ER m M)(hs:bS m w):Lib.Utf8Tabs (Tryz.cr.g 3) (Tryz.cr.g 4) w:=
 ⟨fun c hc=>(hs.cell _).trans (h.1.1 c hc),fun i hi=>⟨(hs.cell _).trans (h.1.2 i hi).1,(hs.cell _).trans (h.1.2 i hi).2⟩⟩
theorem wj(l:List UInt8)(hl:l.length≤9223372036854775807):bu Tryz.prog 221 [.string (str l)] [aw] (fun r H=>r=.bool (aN l).isSome∧H=[]):=by
 intro m X hS;refine ⟨⟨_,Tryz.func221,J7,J7⟩,fun w hs=>?_⟩;refine (Any.utf8_ValidString Tryz.valid (str l) w (by rw [bV];exact hl) (FJ hS.head hs)).mono fun e w' ⟨he,hb⟩=>⟨low m w',bS.low _ _,_,he,[],⟨?_,rfl⟩,?_⟩
 ·rw [G8,FH]
 ·have h0:m.drawn=0:=hS.head.2.2.2;refine Tr.drop (H:=[]) (F:=[aw]) (hS.calm ⟨hb.os.trans hs.os,hb.tape.trans hs.tape,hb.output.trans hs.output,by rw [cJ,←hs.size];exact hb.size,fun k hk _=>?_,iF.low (by rw [h0];exact yI _)⟩);rw [cJ,hb.block k (by rw [hs.size];exact hk),hs.heap]
theorem nA(l:List UInt8)(hl:l.length≤9223372036854775807):bu Tryz.prog 191 [.string (str l)] [aw] (fun r H=>r=.bool (aN l).isSome∧H=[]):=by
 intro m0 X hS;refine aP.zA Tryz.func191 ?_;refine aa8 ?_;refine ab3 ?_;refine zD (wj l hl) ?_
 (try clear hS);rintro _ m _ ⟨rfl,rfl⟩ hS;(try simp only [yC]at hS);refine aa1 ?_
 refine ac0 ?_;exact QN.aj rfl rfl ⟨_,rfl,_,⟨rfl,rfl⟩,Tr.drop (H:=[]) (F:=[aw]) hS⟩
def dM(l:List Nat):List Value:=l.map fun r:Nat=>.int .i32 r
theorem qX(l:List Nat):∀u∈dM l,u.oneCell'=true:=by intro u hu;obtain ⟨b,_,rfl⟩:=vE.1 hu;rfl
theorem iu(l:List Nat):(dM l).length=l.length:=by simp [dM]
theorem Gy{b k r low:Nat}(h:sQ b k r low):2≤k∧k≤4∧r<32∧low≤65536:=by rcases h with h|h|h<;>omega
theorem HY(l:List UInt8){b k r low i:Nat}(h:sQ b k r low)(h1:1≤i)(hk:i≤k)(hl:i≤l.length):acc l r i<2097152:=by
 obtain ⟨j,rfl⟩:∃j,i=j+1:=⟨i-1,J9⟩;have hb:=Gy h;have h2:=G9 l r J9 j hl;rcases h with⟨_,_,rfl,rfl,_⟩|⟨_,_,rfl,rfl,_⟩|⟨_,_,rfl,rfl,_⟩
 ·rcases (show j=0∨j=1 by omega)with rfl|rfl<;>omega
 ·rcases (show j=0∨j=1∨j=2 by omega)with rfl|rfl|rfl<;>omega
 ·have h3:acc l (b%8) (j+1)<8*64^j:=by
   clear h2 hb hk h1
   induction j with
   |zero=>rw [CQ];omega
   |succ j ih=>
    rw [iT l _ (j+1) J9 J9];have:=ih J9;have h5:l[j+1].toNat%64<64:=vP _ J9;rw [Nat.pow_succ];omega
  rcases (show j=0∨j=1∨j=2∨j=3 by omega)with rfl|rfl|rfl|rfl<;>omega
theorem Pa{b:Nat}(h1:194≤b)(h2:b<224):sQ b 2 (b%32) 128:=.inl ⟨h1,h2,rfl,rfl,rfl⟩
theorem PK{b:Nat}(h1:224≤b)(h2:b<240):sQ b 3 (b%16) 2048:=.inr (.inl ⟨h1,h2,rfl,rfl,rfl⟩)
theorem PC{b:Nat}(h1:240≤b)(h2:b<245):sQ b 4 (b%8) 65536:=.inr (.inr ⟨h1,h2,rfl,rfl,rfl⟩)
set_option maxHeartbeats 1000000 in
set_option maxRecDepth 10000 in
theorem Ex(l:List UInt8)(n5:0<l.length)(hl:l.length<1000000000):bu Tryz.prog 143 [.string (str l)] [] (fun r H=>r=.tuple #[.int .i32 (nx l).1,.int .i64 (nx l).2]∧H=[]):=by
 intro m0 X hS;have fin:∀q:Nat×Nat,nx l=q→∀v,v=Value.tuple #[.int .i32 q.1,.int .i64 q.2]→∃r,Ending.returned v=.returned r∧∃H',(r=Value.tuple #[.int .i32 (nx l).1,.int .i64 (nx l).2]∧H'=[])∧Tr m0 (au []) X m0 H':=fun q hq v hv=>⟨v,rfl,[],⟨by rw [hv,hq],rfl⟩,hS⟩
 have hb:=l[0].toNat_lt;refine aP.zA Tryz.func143 ?_;refine YG ?_;refine RL.A1 aa rfl ?_;refine RL.N1 (YE ?_);refine RL.A1 aa rfl ?_;refine RL.Hm aa rfl rfl rfl rfl (k:=0) rfl n5 rfl ?_;refine RL.A1 aa rfl ?_;refine RL.N1 (YE ?_);refine RL.A1 aa rfl ?_;refine RL.N1 (YE ?_);refine RL.A1 aa rfl ?_;refine RL.N1 (YJ ?_);refine WP.cut (X:=Nat×Nat×Nat) (fun q=>[(0,.string (str l)),(5,.int .i64 q.1),(7,.int .i32 q.2.1),(6,.int .i32 q.2.2)]) (fun q m=>m0=m∧sQ l[0].toNat q.1 q.2.1 q.2.2) ?_ ?_
 ·refine YG ?_;refine aa9 ?_;refine WP.cond rfl (fun hc=>?_) (fun hc=>?_)
  ·have c1:l[0].toNat<128:=by have:=xS hc;omega
   refine ab5 ?_;refine QN.dW rfl rfl rfl (fin _ (qD l n5 c1) _ (xZ Value.tuple (xZ (fun q=>#[Value.int .i32 q,.int .i64 1]) ?_)));show IntKind.i32.wrap (l[0].toNat:Int)=_;exact dX _ J9 J9
  have c1:128≤l[0].toNat:=by have:=vX hc;omega
  have none_:(l[0].toNat<194∨245≤l[0].toNat)→nx l=(0,0):=fun hh=>uw l n5 c1 (fun⟨k,r,low,hL⟩=>by rcases hL with h|h|h<;>omega)
  refine YG ?_
  by_cases c2:l[0].toNat<194
  ·refine ab8 ?_;refine ah7 ?_;refine YG ?_;refine ab8 ?_;refine ah7 ?_;refine YG ?_;refine ab8 ?_;refine ah7 ?_;refine YG ?_;refine aa9 ?_;refine WP.ret (YI ?_);exact QN.dW rfl rfl rfl (fin _ (none_ J9) _ rfl)
  by_cases c3:l[0].toNat<224
  ·refine ab8 ?_;refine ac1 ?_;refine af7 ?_;refine YG ?_;refine ab8 ?_;refine RL.eqv (v':=.int .u8 (l[0].toNat%32:Nat)) (xZ _ (Ss _)) ?_;refine ac6 ?_;refine RL.eqv (v':=.int .i32 (l[0].toNat%32:Nat)) (xZ _ (dX _ J9 J9)) ?_;refine ab3 ?_;refine RL.N1 ?_;refine YL ?_;exact QN.ar (2,l[0].toNat%32,128) YC ⟨rfl,Pa J9 J9⟩
  by_cases c4:l[0].toNat<240
  ·refine ab1 ?_;refine ab8 ?_;refine ac1 ?_;refine af7 ?_;refine YG ?_;refine ab8 ?_;refine RL.eqv (v':=.int .u8 (l[0].toNat%16:Nat)) (xZ _ (Sw _)) ?_;refine ac6 ?_;refine RL.eqv (v':=.int .i32 (l[0].toNat%16:Nat)) (xZ _ (dX _ J9 J9)) ?_;refine ab3 ?_;refine RL.N1 ?_;refine YL ?_;exact QN.ar (3,l[0].toNat%16,2048) YC ⟨rfl,PK J9 J9⟩
  by_cases c5:l[0].toNat<245
  ·refine ab1 ?_;refine ab1 ?_;refine ab8 ?_;refine ac1 ?_;refine af7 ?_;refine YG ?_;refine ab8 ?_;refine RL.eqv (v':=.int .u8 (l[0].toNat%8:Nat)) (xZ _ (and7 _)) ?_;refine ac6 ?_;refine RL.eqv (v':=.int .i32 (l[0].toNat%8:Nat)) (xZ _ (dX _ J9 J9)) ?_;refine ab3 ?_;refine RL.N1 ?_;refine YL ?_;exact QN.ar (4,l[0].toNat%8,65536) YC ⟨rfl,PC J9 J9⟩
  refine ab1 ?_;refine ab1 ?_;refine ab1 ?_;refine aa9 ?_;refine WP.ret (YI ?_);exact QN.dW rfl rfl rfl (fin _ (none_ J9) _ rfl)
 ·rintro ⟨k,r,low⟩ m ⟨hm,hL⟩;simp only at hL;subst hm;have hk:=Gy hL;have gE:=vx l n5 hL;refine YG ?_;dsimp only;refine RL.pure aa 2 rfl ?_;refine RL.eqv (v':=.int .i64 l.length) (xZ _ (xZ _ (bV l))) ?_;refine RL.A1 aa rfl ?_;refine RL.N1 (YJ ?_);refine WP.cond rfl (fun hc=>?_) (fun hc=>?_)
  ·have hc:l.length<k:=by have:=xS hc;omega
   refine ab5 ?_;exact QN.dW rfl rfl rfl (fin _ (gE.trans (zX (fun hh=>by omega))) _ rfl)
  have hle:k≤l.length:=by have:=vX hc;omega
  refine ab7 ?_;refine aa9 ?_;refine WP.B1 ?_;refine WP.loop (X:=Nat) (fun i=>[(0,.string (str l)),(5,.int .i64 k),(6,.int .i32 low),(7,.int .i32 (acc l r i:Nat)),(8,.int .i64 i)])
   (fun i m=>m0=m∧1≤i∧i≤k∧∀j (hj:j<l.length),1≤j→j<i→l[j].toNat/64=2) (fun i=>k-i) 1
   YC ⟨rfl,yP _,J9,fun j _ h1 h2=>by omega⟩ ?_
  rintro i m1 ⟨hm,Vr,TU,GU⟩;subst hm;have ZJ:=HY l hL Vr TU J9;refine YG ?_;refine RL.A1 aa rfl ?_;refine RL.N1 (YJ ?_);refine WP.cond rfl (fun hc=>?_) (fun hc=>?_)
  ·have hc:i<k:=by have:=xS hc;omega
   have iA:i<l.length:=by omega
   refine aj2 ?_;refine RL.Hm aa rfl rfl rfl rfl (k:=i) rfl iA rfl ?_;refine aa9 ?_;have LF:decide (bits .and .u8 (l[i].toNat:Int) 192=128)=decide (l[i].toNat/64=2):=Nx _;refine WP.cond rfl (fun jT=>?_) (fun jT=>?_)
   ·have hn:¬l[i].toNat/64=2:=fun hh=>by
     rw [zW hh]at LF;rw [xS LF]at jT;exact absurd jT J8
    refine ab5 ?_;exact QN.dW rfl rfl rfl (fin _ (gE.trans (zX (fun hh=>hn (hh.2.1 i iA Vr hc)))) _ rfl)
   ·have hn:l[i].toNat/64=2:=by
     have h9:bits .and .u8 (l[i].toNat:Int) 192=128:=by simpa using jT
     rw [zW h9]at LF;exact xS LF.symm
    refine ab7 ?_;have Zw:l[i].toNat%64<64:=vP _ J9;have Hv:=iT l r i iA Vr;have XW:=HY l hL (show 1≤i+1 by omega) J9 J9;refine RL.pure aa 2 rfl ?_;refine RL.eqv (v':=.int .i32 (acc l r i*64:Nat)) (xZ _ (by show IntKind.i32.wrap ((acc l r i:Int)*2^6)=_;rw [dX _ J9 J9];omega)) ?_;refine RL.pure aa 2 rfl ?_;refine RL.Hm aa rfl rfl rfl rfl (k:=i) rfl iA rfl ?_;refine RL.pure aa 1 rfl ?_;refine RL.eqv (v':=.int .u8 (l[i].toNat%64:Nat)) (xZ _ (Qt _)) ?_;refine RL.pure aa 1 rfl ?_;refine RL.eqv (v':=.int .i32 (l[i].toNat%64:Nat)) (xZ _ (dX _ J9 J9)) ?_;refine RL.pure aa 1 rfl ?_;refine RL.eqv (v':=.int .i32 (acc l r (i+1):Nat)) (xZ _ ((Bx _ _ Zw J9).trans (by rw [Hv]))) ?_;refine RL.A1 aa rfl ?_;refine RL.N1 (YE ?_);refine RL.A1 aa rfl ?_;refine RL.N1 (QN.round (i+1) (Sub.C1 rfl (Sub.C1 rfl (Sub.C1 rfl (Sub.C1 rfl (Sub.C1 ?_ Sub.nil))))) ⟨rfl,J9,J9,fun j hj h1 h2=>?_⟩ J9)
    ·show some (Value.int .i64 (IntKind.i64.wrap ((i:Int)+1)))=some (Value.int .i64 ((i+1:Nat):Int));rw [ag _ J9 J9];rfl
    ·rcases xA j i with g|g
     ·exact GU j hj h1 g
     ·obtain rfl:j=i:=by omega
      exact hn
  ·have hc:i=k:=by have:=vX hc;omega
   subst hc;refine ac2 ?_
   by_cases d1:acc l r i<low
   ·refine af7 ?_;refine ab5 ?_;exact QN.dW rfl rfl rfl (fin _ (gE.trans (zX (fun hh=>by have:=(lx (low:=low)).2 (.inl d1);rw [hh.2.2]at this;cases this))) _ rfl)
   by_cases d2:1114111<acc l r i
   ·refine ad0 ?_;refine ac5 ?_;refine af7 ?_;refine ab5 ?_;exact QN.dW rfl rfl rfl (fin _ (gE.trans (zX (fun hh=>by have:=(lx (low:=low)).2 (.inr (.inl d2));rw [hh.2.2]at this;cases this))) _ rfl)
   by_cases d3:55296≤acc l r i
   rotate_left
   ·refine ad0 ?_;refine ac5 ?_;refine ad0 ?_;refine ac5 ?_;refine RL.pure aa 4 rfl ?_;refine ah7 ?_;refine ab7 ?_;refine ac0 ?_;exact QN.dW rfl rfl rfl (fin _ (gE.trans (yS ⟨hle,GU,by
     cases hq:xj (acc l r i) low
     ·rfl
     ·exact absurd (lx.1 hq) J9⟩)) _ rfl)
   by_cases d4:acc l r i<57344
   ·refine ad0 ?_;refine ac5 ?_;refine ad0 ?_;refine ac5 ?_;refine RL.pure aa 4 rfl ?_;refine ac1 ?_;refine af7 ?_;refine ab5 ?_;exact QN.dW rfl rfl rfl (fin _ (gE.trans (zX (fun hh=>by have:=(lx (low:=low)).2 (.inr (.inr ⟨d3,d4⟩));rw [hh.2.2]at this;cases this))) _ rfl)
   refine ad0 ?_;refine ac5 ?_;refine ad0 ?_;refine ac5 ?_;refine RL.pure aa 4 rfl ?_;refine ac1 ?_;refine ad0 ?_;refine ah7 ?_;refine ab7 ?_;refine ac0 ?_;exact QN.dW rfl rfl rfl (fin _ (gE.trans (yS ⟨hle,GU,by
    cases hq:xj (acc l r i) low
    ·rfl
    ·exact absurd (lx.1 hq) J9⟩)) _ rfl)
theorem mv(l:List UInt8)(hl:l.length<1000000000):bu Tryz.prog 97 [.string (str l)] [] (fun r H=>∃v S,r=.tuple #[v,.bool (aN l).isSome]∧H=[aF S 21 1 v ((aN l).getD []).length (dM ((aN l).getD []))]):=by
 intro m0 X hS;refine aP.zA Tryz.func97 ?_;refine aa8 ?_;refine aa9 ?_;refine WP.S1 ?_;refine WP.B1 ?_;refine WP.loop (X:=List UInt8×List Nat×Value×List Nat) (fun q=>[(0,.string (str q.1)),(4,q.2.2.1)])
  (fun q m=>q.1.length≤l.length∧q.2.1.length+q.1.length≤l.length∧aN l=(aN q.1).map (q.2.1++·)∧Tr m0 (au []) X m [aF q.2.2.2 21 1 q.2.2.1 q.2.1.length (dM q.2.1)]) (fun q=>q.1.length) (l,[],.slice none 0 0,[])
  YC ⟨yP _,YA,by cases aN l<;>simp,hS.empty _ _ _⟩ ?_
 rintro ⟨s,out,v,S⟩ m ⟨fQ,B2,kE,hS⟩;dsimp only at fQ B2 kE hS ⊢;refine YG ?_;refine ab8 ?_;refine RL.eqv (v':=.int .i64 s.length) (xZ _ (xZ _ (bV s))) ?_;refine aa9 ?_;refine WP.cond rfl (fun hc=>?_) (fun hc=>?_)
 ·have fh:0<s.length:=by have:=xS hc;omega
  have dP:s≠[]:=List.ne_nil_of_length_pos fh;refine WP.skip (YE ?_);refine RL.A1 aa rfl ?_;refine zD (Ex s fh J9) ?_
  (try clear hS);rintro _ m _ ⟨rfl,rfl⟩ hS;(try simp only [yC]at hS);refine aa1 ?_
  refine aa0 ?_;refine aa9 ?_;have bo:=dR s dP;refine WP.cond rfl (fun jT=>?_) (fun jT=>?_)
  ·have h0:(nx s).2=0:=by have:=xS jT;omega
   rw [yS h0]at bo;rw [bo]at kE;have Me:aN l=none:=kE;refine YG ?_;refine RL.A1 aa rfl ?_;refine RL.N1 (YE ?_);refine WP.ret (YI ?_);exact QN.dW rfl rfl rfl ⟨_,rfl,[aF [] 21 1 (.slice none 0 0) 0 []],⟨.slice none 0 0,[],by rw [Me];rfl,by rw [Me];rfl⟩,(Tr.drop (H:=[]) hS).empty _ _ _⟩
  ·have h0:¬(nx s).2=0:=by have:=vX jT;omega
   rw [zX h0]at bo;have hw:1≤(nx s).2∧(nx s).2≤s.length:=by
    rcases eX s dP with h1|h1
    ·exact absurd h1 h0
    ·exact h1
   refine aj2 ?_;refine RL.dh aa hS [.tmp 18] (dM [(nx s).1]) rfl rfl rfl rfl rfl rfl rfl rfl rfl (by simp [Value.cells,dM]) JX Jz (qX _) Jy (by show(_+_)*4≤_;omega) ?_;intro b v' m S' hS;refine ai2 ?_;refine ab3 ?_;refine RL.Ls aa rfl rfl rfl rfl (k:=(nx s).2) rfl hw.2 rfl ?_;refine ab3 ?_;refine RL.N1 ?_;refine YL ?_;refine QN.round (s.drop (nx s).2,out++[(nx s).1],v',S') YC ⟨by simp only [zZ];omega,by simp only [zZ,zY,uW];omega,?_,?_⟩ (by simp only [zZ];omega)
   ·rw [kE,bo];cases aN (s.drop (nx s).2)<;>simp
   ·simpa [dM,Tr,zY]using hS
 ·have hz:s=[]:=wO (by have:=vX hc;omega);subst hz;rw [gM]at kE;simp only [uS,vI]at kE;refine WP.exit (YD ?_);refine YG ?_;refine RL.A1 aa rfl ?_;refine RL.N1 (YE ?_);refine WP.ret (YI ?_);rw [kE];exact QN.dW rfl rfl rfl ⟨_,rfl,_,⟨_,S,rfl,rfl⟩,hS⟩
theorem B0(l:List UInt8)(hl:l.length<1000000000):bu Tryz.prog 50 [.string (str l)] [] (fun r H=>r=.bool (aN l).isSome∧H=[]):=by
 intro m0 X hS;refine aP.zA Tryz.func50 ?_;refine aa8 ?_;refine ab3 ?_;refine zD (mv l hl) ?_
 (try clear hS);rintro _ m _ ⟨v,S,rfl,rfl⟩ hS;(try simp only [zC,zN]at hS);refine aa1 ?_
 refine aa0 ?_;refine ac0 ?_;exact ai3
end Go.Proofs.YtgpgladbdoimdaaGreatDoor
namespace Go.Ev
open Go.RowKit Go.Sort Go.Shelf Go.Proofs
theorem yg{W m' w':World}(hE:Ext W [] m')(hs:bS m' w'):∃q os',w'=grow (W.drewN q) os':=by
 refine ⟨w'.drawn-W.drawn,w'.heap.extract W.heap.size w'.heap.size,?_⟩;have h1:W.drawn≤w'.drawn:=wG hE.drawn.1 hs.drawn;have h2:W.heap++w'.heap.extract W.heap.size w'.heap.size=w'.heap:=by
  have cz:W.heap.size≤w'.heap.size:=by rw [hs.heap];exact hE.size
  apply Array.ext
  ·simp;omega
  ·intro i h3 h4
   by_cases hi:i<W.heap.size
   ·rw [Array.getElem_append_left hi];have:=hE.ej i hi YA;rw [←hs.heap]at this;rw [Array.getElem?_eq_getElem hi,Array.getElem?_eq_getElem h4]at this;exact (yR this).symm
   ·rw [Array.getElem_append_right J9,Array.getElem_extract]
    congr 1;omega
 obtain ⟨h,t,d,o,u⟩:=w';obtain ⟨h',t',d',o',u'⟩:=W;have e1:t=t':=hs.tape.trans hE.tape;have e2:o=o':=hs.os.trans hE.os;have e3:u=u':=hs.output.trans hE.output;subst e1;subst e2;subst e3;simp only at h1 h2;unfold grow World.drewN;simp only;rw [h2]
 congr 1;omega
theorem _root_.Go.Ev.Own.yo{m:World}{S:List Nat}{t:TypeId}{sz:Nat}{v:Value}{n j k:Nat}{xs:List Value}(h:Own m S t sz v n xs)(hk:0<k)(hj:j+k≤n*sz):
  ∃g cap cur,v=.slice (some ⟨g,0,none⟩) n cap∧bw m g t cur∧S=[g]∧j+k≤cur.length∧∀m' vs,vs.length=k→gD m g (.cells (cur.take j++vs++cur.drop (j+k)).toArray t (0,0)) m'→Own m' S t sz v n (xs.take j++vs++xs.drop (j+k)):=by
 have hn:0<n:=by
  rcases xR n with h0|h0
  ·subst h0;simp at hj;omega
  ·exact h0
 obtain ⟨g,cap,cur,rfl,hB,Bv,kl,jW,CW,rfl⟩:=h.at_ hn;have hlen:=h.1;have My:j+k≤cur.length:=by rw [jW];exact wG hj (wP _ Bv)
 obtain ⟨rest,rfl⟩:∃rest,cur=xs++rest:=⟨cur.drop (n*sz),by rw [←CW,yG]⟩;refine ⟨g,cap,_,rfl,hB,rfl,My,fun m' vs hv hC=>?_⟩;have e1:(xs++rest).take j=xs.take j:=yE J9;have e2:(xs++rest).drop (j+k)=xs.drop (j+k)++rest:=List.drop_append_of_le_length J9;have e3:(xs.take j++vs++xs.drop (j+k)).length=n*sz:=by simp [hv];omega
 rw [e1,e2]at hC;refine ⟨e3,.inr ⟨g,cap,_,rfl,hC.fc,Bv,kl,?_,?_,rfl⟩⟩
 ·rw [←jW];simp only [zY,yA,zZ,hv];omega
 ·rw [←wM,←e3,xY]
section
variable{α:Type} [Inhabited α]
omit[Inhabited α]in
theorem pz(enc:α→List Value)(k:Nat)(hk:∀x,(enc x).length=k):∀(l:List α) (i j:Nat),j<k→(h:i<l.length)→(l.flatMap enc)[i*k+j]?=(enc l[i])[j]?
 |x::l,0,j,hj,_=>by
  rw [vH,vJ (by rw [hk];omega)];simp
 |x::l,i+1,j,hj,h=>by
  rw [vH,vM (by rw [hk,xQ];omega),hk];rw [show(i+1)*k+j-k=i*k+j by rw [xQ];omega];rw [pz enc k hk l i j hj J5];simp
omit[Inhabited α]in
theorem fS(enc:α→List Value)(k:Nat)(hk:∀x,(enc x).length=k):∀l:List α,(l.flatMap enc).length=l.length*k
 |[]=>by simp
 |x::l=>by rw [vH,zY,hk,fS enc k hk l,yF,xQ,wQ]
theorem rA(enc:α→List Value)(k:Nat)(hk:∀x,(enc x).length=k)(ib:0<k)(d:Array α):flatK enc k d=(d.toList.flatMap enc).toArray:=by
 apply ext_get!
 ·have h9:=fS enc k hk d.toList;rw [show d.toList.length=d.size from uX]at h9;rw [size_flatK,←h9];exact (List.size_toArray ..).symm
 ·intro t ht;rw [size_flatK]at ht;rw [get_flatK _ _ _ _ ht];have hq:t/k<d.toList.length:=by rw [uX];exact Nat.div_lt_of_lt_mul (by rw [Nat.mul_comm];exact ht)
  have hm:t%k<k:=vP _ ib;have h1:=pz enc k hk d.toList (t/k) (t%k) hm hq;rw [Nat.mul_comm,Nat.div_add_mod]at h1;have h2:t<(d.toList.flatMap enc).length:=by rw [fS enc k hk,uX];exact ht
  rw [xW h2,xW (by rw [hk];exact hm)]at h1;rw [getElem!_pos (d.toList.flatMap enc).toArray t (by simpa using h2)];have h3:d[t/k]! =d.toList[t/k]:=by rw [getElem!_pos d _ J3];simp
  rw [h3,getElem!_pos (enc d.toList[t/k]) _ (by rw [hk];exact hm)]
  simpa using(yR h1).symm
theorem sy(F:List Value)(cur:List Value)(h:F.length≤cur.length):putCells id 0 F.toArray cur.toArray=(F++cur.drop F.length).toArray:=by
 unfold putCells;apply Array.ext
 ·simp;omega
 ·intro i h1 h2;simp only [Array.getElem_mapIdx,yI,true_and,zU,List.size_toArray,Nat.sub_zero,id]
  by_cases hi:i<F.length
  ·rw [yS hi,getElem!_pos F.toArray i (by simpa using hi)];simp [uY hi]
  ·rw [zX hi];simp [List.getElem_append_right (Nat.le_of_not_lt hi)]
   congr 1;omega
theorem nD{P:Program}{ρ:Ren}(L:SlLaysF0.n6 P ρ)(k:Nat)(ib:0<k)(aE:∀w,(isAgg (ρ.t 24)).run P w=.ok true w)(zE:∀w,(Go.sizeOf (ρ.t 24)).run P w=.ok k w)(enc:α→List Value)(hk:∀x,(enc x).length=k)(h1:∀x,∀v∈enc x,v.oneCell'=true)
  (cf:α→α→Int)(hO:SWO (ltOf cf))(g:Nat)(ZC:dq P g)(x9:dq P (ρ.f 6))(Wa:∀W x y,dg P g [.agg (enc x).toArray,.agg (enc y).toArray] W fun r m'=>r=.int .i64 (cf x y)∧Ext W [] m')
  {m:World}{S:List Nat}{te:TypeId}{v:Value}{l:List α}(jh:Own m S te k v l.length (l.flatMap enc))(hl:l.length<4611686018427387904):
  dg P (ρ.f 6) [v,.func (.func g) #[] #[]] m fun r m'=>r=.tuple #[]∧Ext m S m'∧∃l':List α,l'.Perm l∧l'.Pairwise (fun x y=>ltOf cf y x=false)∧Own m' S te k v l'.length (l'.flatMap enc):=by
 have eg:∀args w,(callFunc g args).run P w=.ok (.enter g args) w:=fun args w=>nu ZC args w
 refine ⟨x9,fun w hs=>?_⟩
 by_cases Fm:l.length=0
 ·have n5:l=[]:=wO Fm;subst n5;obtain ⟨A,c,rfl,_⟩:=jh.shape;refine (AnyF.slices_SortFunc_none L A c (.func (.func g) #[] #[]) w).mono ?_;rintro e w' ⟨rfl,rfl⟩;exact ⟨m,hs,_,rfl,rfl,Ext.refl _ _,[],List.Perm.refl _,List.Pairwise.nil,jh⟩
 obtain ⟨b,cap,cur,rfl,hB,ya,kl,jW,kT,rfl⟩:=jh.at_ J9;have hw:w.heap[b]?=some (.cells cur.toArray te (0,0)):=by rw [hs.heap];exact hB
 have kd:=fS enc k hk l;have Ql:(l.flatMap enc).length≤cur.length:=by rw [kd,jW];exact wP _ ya
 have hF:=rA enc k hk ib l.toArray;have hH:HoldsK enc k w b 0 l.toArray:=by
  intro j hj;rw [size_flatK,List.size_toArray]at hj;rw [hF];have x8:j<(l.flatMap enc).length:=by rw [kd];exact hj
  have My:j<cur.length:=by omega
  have hx:cur[j]=(l.flatMap enc)[j]:=by
   have:(cur.take (l.length*k))[j]?=(l.flatMap enc)[j]?:=by rw [kT]
   rw [xV,yS hj,xW My,xW x8]at this;exact yR this
  constructor
  ·simp only [zU,World.cell?,hw,id];rw [getElem!_pos _ j (by simpa using x8)];simp [My,hx]
  ·simp only [zU,World.frozen?,hw];simp
 have QK:CmpLays P g #[] enc k cf b 0 l.toArray.size w:=fun q os dk _ x y=>by
  have h2:=(Wa (sortWorldK enc k w b 0 q dk os) x y).2 _ (bS.refl _);refine Calls.mono h2 ?_;rintro e w' ⟨m',ud,r,rfl,rfl,hE⟩;exact ⟨rfl,yg hE ud⟩
 have fO:=AnyQ.slices_SortFunc L k aE zE enc hk h1 cf hO g #[] b 0 cap l.toArray w eg QK hH (by rw [hs.size];exact hB.lt) (by simpa using hl);simp only [List.size_toArray]at fO;refine Calls.mono fO ?_;rintro e w' ⟨rfl,d',q,os,hp,UT,rfl⟩;obtain ⟨P2,_,Pu⟩:=hp;have D6:d'.size=l.length:=by simpa using P2
 have pk:d'.toList.Perm l:=by
  have e1:(d'.extract 0 l.length).toList=d'.toList:=by simp [←D6]
  have e2:(l.toArray.extract 0 l.length).toList=l:=by simp
  rw [e1,e2]at Pu;exact Pu
 have UN:=rA enc k hk ib d';have ln:(d'.toList.flatMap enc).length=(l.flatMap enc).length:=by rw [fS enc k hk,kd,uX,D6]
 have Te:(putRowK enc k (Go.Sort.ahead w q) b 0 d').heap[b]?=some (.cells (d'.toList.flatMap enc++cur.drop (l.flatMap enc).length).toArray te (0,0)):=by
  unfold putRowK putRow mapBlock;rw [UN];show(w.heap.modify b _)[b]?=_;rw [Array.getElem?_modify,yS rfl,hw];simp only [uS,onCells];rw [sy _ _ (by rw [ln];exact Ql),ln]
 have Pv:∀j,j≠b→(putRowK enc k (Go.Sort.ahead w q) b 0 d').heap[j]?=w.heap[j]?:=fun j hj=>by
  unfold putRowK putRow mapBlock;show(w.heap.modify b _)[j]?=_;rw [Array.getElem?_modify,zX (yM hj)]
 have MW:(putRowK enc k (Go.Sort.ahead w q) b 0 d').heap.size=w.heap.size:=by
  unfold putRowK putRow mapBlock;show(w.heap.modify b _).size=_;simp
 have Mw:∀j,j<w.heap.size→(sortWorldK enc k w b 0 q d' os).heap[j]?=(putRowK enc k (Go.Sort.ahead w q) b 0 d').heap[j]?:=fun j hj=>by
  unfold sortWorldK grow;show(_++os)[j]?=_;rw [Array.getElem?_append_left (by rw [MW];exact hj)]
 have Yv:b<w.heap.size:=by rw [hs.size];exact hB.lt
 refine ⟨low m (sortWorldK enc k w b 0 q d' os),bS.low _ _,_,rfl,rfl,?_,d'.toList,pk,?_,?_⟩
 ·refine ⟨?_,?_,?_,?_,fun j hj hn=>?_,?_⟩
  ·exact hs.os
  ·exact hs.tape
  ·exact hs.output
  ·show m.heap.size≤(_++os).size;rw [Array.size_append,MW,hs.size];omega
  ·rw [cJ,Mw j (by rw [hs.size];exact hj),Pv j (by simpa using hn),hs.heap]
  ·refine iF.low ?_;show m.drawn≤w.drawn+q;have:=hs.drawn;omega
 ·rw [xJ];intro i j hi hj E8;have:=UT i j (yI _) E8 (by simpa [D6]using hj);rw [getElem!_pos d' i (by simpa using hi),getElem!_pos d' j (by simpa using hj)]at this
  simpa using this
 ·have yx:d'.toList.length=l.length:=by rw [uX,D6]
  refine ⟨by rw [ln,kd,yx],.inr ⟨b,cap,d'.toList.flatMap enc++cur.drop (l.flatMap enc).length,by rw [yx],?_,by rw [yx];exact ya,kl,?_,?_,rfl⟩⟩
  ·show(sortWorldK enc k w b 0 q d' os).heap[b]?=_;rw [Mw b Yv,Te]
  ·rw [zY,ln,zZ,jW];rw [jW]at Ql;omega
  ·rw [yx,←kd,←ln];exact xY
end
end Go.Ev
namespace Go.Proofs.YtgpgladbdoimdaaGreatDoor
open Go.RowKit Go.Ev Go.Ids
theorem nq(a b:Nat):ic a b<0↔a<b:=by unfold ic;split;omega;split<;>omega
theorem lN(a b:Nat):ic a b=0↔a=b:=by unfold ic;split;omega;split<;>omega
theorem nX(x y:aG):Go.Proofs.ltOf Re x y=x.lt y:=by
 unfold Go.Proofs.ltOf;rw [uZ,vY,lt_iff];unfold Re
 split
 ·rename_i h;rw [lN]at h;rw [nq];omega
 ·rename_i h;rw [lN]at h;rw [nq];omega
theorem WD:Go.Sort.SWO (Go.Proofs.ltOf Re)where
 irrefl x:=by rw [nX];simp [aG.lt]
 trans x y z h1 h2:=by rw [nX,lt_iff]at*;omega
 ntrans x y z h1 h2:=by
  rw [nX,←vR,lt_iff]at*;omega
instance:Inhabited aG:=⟨⟨0,0,0⟩⟩
theorem NS(x:aG):(rC x).length=3:=rfl
theorem gI(x:aG):∀v∈rC x,v.oneCell'=true:=by intro v hv;simp [rC]at hv;rcases hv with rfl|rfl|rfl<;>rfl
theorem LM(m:World)(S:List Nat)(v:Value)(l:List aG)(h:Ev.Own m S 167 3 v l.length (l.flatMap rC))(hl:l.length<1000000000):
  dg Tryz.prog 180 [v,.func (.func 181) #[] #[]] m fun r m'=>r=.tuple #[]∧Ext m S m'∧∃l':List aG,l'.Perm l∧l'.Pairwise aG.le∧Ev.Own m' S 167 3 v l'.length (l'.flatMap rC):=by
 refine dg.mono (nD Tryz.RR 3 J9 Tryz.isAgg167 Tryz.sizeOf167 rC NS gI Re WD 181 ⟨_,Tryz.func181,J7,J7⟩ ⟨_,Tryz.func180,J7,J7⟩ (fun W x y=>PN W x y) h J9) ?_;rintro r m' ⟨rfl,hE,l',h1,h2,h3⟩;refine ⟨rfl,hE,l',h1,h2.imp (fun{a b} sM=>?_),h3⟩;rw [nX]at sM;exact le_of_not_lt (by rw [sM];decide)
theorem jd(a b:List aG):a.flatMap rC++b.flatMap rC=(a++b).flatMap rC:=by simp
theorem zk(a:List aG)(y:aG)(z:Nat):((a++[y]).flatMap rC).set (a.length*3+2) (.int .u64 z)=(a++[{y with t:=z}]).flatMap rC:=by
 rw [vG,vG,tA _ _ (by rw [fH];omega),fH];have:a.length*3+2-a.length*3=2:=by omega
 rw [this];rfl
def qI(m:World)(b1 b2 b3:Nat)(v:Value)(l:List aG)(pre:List aG)(a:World):Prop:=
 ∃S ov,bw a b3 46 [ov]∧Ev.Own a S 167 3 ov pre.length (pre.flatMap rC)∧(∀k∈S,m.heap.size≤k∧k≠b3∧k≠b1∧k≠b2)∧Ext m [] a∧RK b1 b2 v l 93 a
theorem qI.kc{m a b:World}{b1 b2 b3 B:Nat}{v:Value}{l pre:List aG}(h:qI m b1 b2 b3 v l pre a)(hK:Kc B a b)(hB:m.heap.size≤B):qI m b1 b2 b3 v l pre b:=by
 obtain ⟨S,ov,h1,h2,h3,h4,h5,h6,h7⟩:=h;exact ⟨S,ov,h1.kc hK,h2.kc hK,h3,h4.Dp hK hB,h5.kc hK,h6.kc hK,Sl.kc h7 hK⟩
theorem ly(m:World)(v:Value)(l:List aG)(h:Rs m [] v l)(hl:l.length<500000000):
  dg Tryz.prog 130 [v] m fun r m'=>∃S',Ev.Own m' S' 167 3 r (clean l).length ((clean l).flatMap rC)∧ek m S' m':=by
 obtain ⟨A,c,rfl,_,_⟩:=h.shape;refine aP.zB Tryz.func130 ?_;refine ai1 ?_;refine RL.N1 (QN.N1 ?_);refine WP.scope ?_;refine YG ?_;refine RL.alloc aa rfl rfl (fun b3 m1 IQ ph=>⟨_,rfl,?_⟩);have yw:bw m1 b3 46 [.slice none 0 0]:=ph.fc;have dd:Ext m [] m1:=ph.new J9;have s1:=ph.size;refine RL.N1 (YE ?_);refine RL.A1 aa rfl ?_;refine zM (Ia m1 (.slice A l.length c) l 93) ?_;rintro _ m2 ⟨b1,b2,rfl,g1,g2,bM,Hw⟩;refine ⟨_,rfl,?_⟩;have Hw:=Hw (h.bQ dd);have pX:=yw.ext bM YA;have sk:=dd.trans bM YA;have lb1:=Hw.1.lt;have lb2:=Hw.2.1.lt;have lb3:=pX.lt;refine RL.sub (e':=[(3,.pointer (some ⟨b3,0,none⟩)),(10,.func (.func 217) #[] #[.pointer (some ⟨b1,0,none⟩),.pointer (some ⟨b2,0,none⟩)])]) YC ?_;refine RL.N1 (YE ?_);refine WP.rangeFunc (ps:=[11]) (gf:=217) (lb:=[.pointer (some ⟨b1,0,none⟩),.pointer (some ⟨b2,0,none⟩)]) (fun x:aG=>[rV x]) rfl (D7 m2 b1 b2 (.slice A l.length c) l J9 93 aG.right (fun m1 x=>u6 m1 x)) ⟨_,Tryz.func217,J7,J7⟩
  (qI m b1 b2 b3 (.slice A l.length c) l) (fun _ _ _=>False) (fun pre a b hi hK=>hi.kc hK sk.size) (fun _ _ _ _ hi _=>hi) (fun pre a ⟨_,_,_,_,_,_,hk⟩=>hk)
  ⟨[],.slice none 0 0,pX,Own.empty _ _ _ _,YA,sk,Hw⟩
  (fun x=>[(11,rV x),(3,.pointer (some ⟨b3,0,none⟩)),(10,.func (.func 217) #[] #[.pointer (some ⟨b1,0,none⟩),.pointer (some ⟨b2,0,none⟩)])]) (fun x=>rfl) (fun x=>rfl)
  (fun x b4=>[(4,.pointer (some ⟨b4,0,none⟩)),(3,.pointer (some ⟨b3,0,none⟩))]) (fun pre x b4 a=>bw a b4 167 (rC x)∧qI m b1 b2 b3 (.slice A l.length c) l pre a) (fun pre x y a b hi hK=>⟨hi.1.kc hK,hi.2.kc hK sk.size⟩)
  ?_ ?_ ?_ ?_
 ·
  rintro lp pre x m3 hI hlen cz;refine WP.R1 ?_;refine RL.alloc aa rfl rfl (fun b4 m4 Xf jf=>⟨_,rfl,?_⟩);have eQ:Ext m3 [] m4:=jf.new J9;refine RL.bF aa (b:=b4) (i:=0) (vs:=rC x) (cs:=[.int .u64 0,.int .u64 0,.int .u64 0]) jf.fc rfl rfl rfl rfl rfl YA Jv rfl ?_;intro m5 ki;have ff:Ext m3 [] m5:=eQ.trans ki.ext (fun q hq=>.inr (by have h9:q=b4:=J3;omega));exact RL.N1 (QN.Gn b4 YC ff.XE ⟨ki.fc,hI.kc ff.kc sk.size⟩)
 ·
  rintro lp pre x b4 m3 ⟨mo,S,ov,Cl,hO,hS,eN,vf⟩ hlen cz
  replace hlen:pre.length<l.length:=hlen
  refine YG ?_;refine RL.load aa rfl rfl rfl (Cl.cell 0 rfl) rfl ?_;refine RL.aJ aa (rC x) rfl rfl rfl (fun j u hu=>by rw [av];exact mo.cell _ J2) rfl ?_;refine RL.dZ aa [.tmp 13] hO (us:=[rV x]) (rC x) rfl rfl rfl rfl rfl rfl rfl rfl rfl Jt Jw (gI x) Jy Jn ?_;intro v4 m4 S4 gl eQ xx;refine aa1 ?_;have Pf:=Cl.ext eQ (fun hh=>(hS _ hh).2.1 rfl);refine RL.store aa Pf (i:=0) (v:=v4) YA rfl rfl rfl rfl gl.one rfl ?_;intro m5 ki;have l1:=vf.1.lt;have l2:=vf.2.1.lt;have l3:=Cl.lt;have A3:∀k∈S4,m.heap.size≤k∧k≠b3∧k≠b1∧k≠b2:=fun k hk=>by
   rcases xx k hk with h9|h9
   ·exact hS k h9
   ·have:=eN.size;exact ⟨J9,J9,J9,J9⟩
  have ff:Ext m3 (b3::S) m5:=(eQ.mono (fun k hk _=>zO _ hk)).trans ki.ext (fun k hk=>.inl (by have h9:k=b3:=(by simpa using hk);simp [h9]));have Gw:Ext m [] m5:=eN.trans ff (fun k hk=>.inr (by
   rcases yH.1 hk with rfl|hk
   ·omega
   ·exact (hS k hk).1))
  refine RL.N1 ?_;refine YJ ?_;refine QN.Ap (ff.kn (fun k hk _ _=>?_)) ⟨S4,v4,ki.fc,?_,A3,Gw,vf.1.ext ff ?_,vf.2.1.ext ff ?_,h.bQ Gw⟩
  ·rcases yH.1 hk with rfl|hk
   ·exact ⟨_,_,_,Cl⟩
   ·exact hO.cells k hk
  ·rw [zY,vG];exact (gl.ext ki.ext (fun k hk=>by have:=(A3 k hk).2.1;simpa using this))
  ·intro hh;rcases yH.1 hh with h9|h9
   ·omega
   ·exact (hS _ h9).2.2.1 rfl
  ·intro hh;rcases yH.1 hh with h9|h9
   ·omega
   ·exact (hS _ h9).2.2.2 rfl
 ·
  rintro D xs m3 hD rfl ⟨S,ov,Cl,hO,hS,eN,_⟩ hk;have hDS:∀(t:TypeId) (cs:List Value),¬bw m3 D t cs:=fun t cs hh=>by rw [hh]at hk;cases hk
  have UE:m.heap.size≤D:=wG sk.size hD;have No:D<m3.heap.size:=(wI.1 hk).1;have Pj:D∉S:=fun hh=>by
   obtain ⟨c1,t1,z1,h9⟩:=hO.cells D hh;rw [h9]at hk;cases hk
  have qa:(l.filter aG.right).length≤l.length:=xD _ _;refine YG ?_;refine YJ ?_;refine YG ?_;refine RL.load aa rfl rfl rfl (Cl.cell 0 rfl) rfl ?_;refine zM (LM m3 S ov _ hO J9) ?_;rintro _ m4 ⟨rfl,eQ,l',pk,Gz,gl⟩;refine ⟨_,rfl,?_⟩;have mo:=Cl.ext eQ (fun hh=>(hS _ hh).2.1 rfl);have LZ:m4.heap[D]?=some (.deferred (some [])):=(eQ.ej D No Pj).trans hk;have Hp:Ext m [] m4:=eN.trans eQ (fun k hk=>.inr (hS k hk).1);have ln:l'.length≤l.length:=by rw [pk.length_eq];exact qa
  obtain ⟨A',c',rfl,Uj⟩:=gl.shape;have Qk:Rs m4 [] (.slice A' l'.length c') l':=gl.sl YA;have HQ:D<m4.heap.size:=(wI.1 LZ).1;refine RL.N1 (YE ?_);refine RL.A1 aa rfl ?_;refine RL.N1 (YE ?_);refine WP.label ?_;refine QN.N1 ?_;refine YG ?_;refine RL.load aa rfl rfl rfl (mo.cell 0 rfl) rfl ?_;refine RL.A1 aa rfl ?_;refine RL.N1 (YE ?_);refine (WP.loop (X:=Nat×Value×List Nat) (fun x=>[(18,.slice A' l'.length c'),(19,.int .i64 l'.length),(5,x.2.1),(20,.int .i64 x.1)])
   (fun x m'=>x.1≤l'.length∧Ev.Own m' x.2.2 167 3 x.2.1 ((l'.take x.1).foldl mg []).length (((l'.take x.1).foldl mg []).reverse.flatMap rC)∧ek m4 x.2.2 m') (fun x=>l'.length-x.1) (0,.slice none 0 0,[])
   YC ⟨YA,Own.empty _ _ _ _,Ext.refl _ _,bp.nil _ _⟩ ?_)
  rintro ⟨i,u,S5⟩ m5 ⟨hi,gZ,iS⟩;simp only at hi gZ iS;refine aa8 ?_;refine WP.cond rfl (fun hc=>?_) (fun hc=>?_)
  ·replace hc:i<l'.length:=by have:=xS hc;simp only at this;omega
   obtain ⟨ad,rfl,hx⟩:=(Qk.bQ iS.1).cell i hc;have dF:(l'.take (i+1)).foldl mg []=mg ((l'.take i).foldl mg []) l'[i]:=by rw [vN hc,vO];rfl
   have Nv:((l'.take i).foldl mg []).length≤l.length:=by
    have h9:=gA (l'.take i) [];have h8:=List.length_take_le i l';simp only [xE]at h9;omega
   generalize (l'.take i).foldl mg []=r at gZ dF Nv;obtain ⟨x,gi⟩:∃x,l'[i]=x:=⟨_,rfl⟩;rw [gi]at hx dF;obtain ⟨A5,c5,rfl,W4⟩:=gZ.shape;refine ab7 ?_;refine ab0 ?_;refine RL.aJ aa (rC x) rfl rfl rfl hx rfl ?_;refine RL.alloc aa rfl rfl (fun b7 m6 Ro jJ=>⟨_,rfl,?_⟩);refine RL.bF aa (b:=b7) (i:=0) (vs:=rC x) (cs:=[.int .u64 0,.int .u64 0,.int .u64 0]) jJ.fc rfl rfl rfl rfl rfl YA Jv rfl ?_;intro m7 wx;have LP:Ext m5 [] m7:=(jJ.new J9).trans wx.ext (fun q hq=>.inr JZ);have su:bw m7 b7 167 (rC x):=wx.fc;have EX:=gZ.ext LP YA;have hS7:b7∉S5:=fun hh=>by have:=gZ.lt _ hh;omega
   have PO:ek m4 S5 m7:=⟨iS.1.trans LP YA,iS.2⟩;obtain ⟨e7,WY⟩:=zP ([(18,.slice (some ad) l'.length c'),(19,.int .i64 l'.length),(5,.slice A5 r.length c5),(20,.int .i64 i),(7,.pointer (some ⟨b7,0,none⟩))]:Env);refine RL.N1 (YJ ?_);refine WP.cut (X:=Unit) (fun _=>e7) (fun _ m'=>m'=m7∧mg r x=x::r) ?_ ?_
   ·rw [WY];refine YG ?_;rcases r with _|⟨y,r'⟩
    ·refine ad0 ?_;refine RL.eqv (v':=.int .i64 (-1)) rfl ?_;refine aa9 ?_;refine YG ?_;refine WP.calm ?_;refine WP.dI (fun m'=>m'=m7) [] J7 rfl ai.calm (fun hQ=>?_);refine RH.pure aa hQ [0,1,2,3,4,5,6,7,8,9,10,11,12,13,14,15,16,17,18,19,20,21] J7 rfl ?_;refine RH.done J7 (fun _=>QN.calm ?_);refine YJ ?_;refine ae9 ?_;exact QN.ar () YC ⟨rfl,rfl⟩
    ·have iD:(y::r').length=r'.length+1:=rfl;refine RL.pure aa 3 rfl ?_;refine RL.eqv (v':=.int .i64 r'.length) (xZ _ JG) ?_;refine RL.A1 aa rfl ?_;refine RL.N1 (YJ ?_);refine YG ?_;have KM:Rs m7 [] (.slice A5 (y::r').length c5) (r'.reverse++[y]):=by
      have:=EX.sl (M:=[]) YA;rw [tB]at this;exact this
     obtain ⟨ad5,rfl,hy⟩:=KM.cell r'.length YA;have I7:(r'.reverse++[y])[r'.length]'(by simp)=y:=by simp
     rw [I7]at hy;refine WP.calm ?_;refine WP.dI (fun m'=>m'=m7) [] J7 rfl ai.calm (fun hQ=>?_);refine RH.pure aa hQ [0,1] J7 rfl ?_;refine RH.eqv (v':=.bool true) (xZ _ (zW J9)) ?_;refine RH.pure aa hQ [2,3,4] J7 rfl ?_;refine RH.indexAddr aa hQ 5 (k:=r'.length) rfl J7 rfl rfl rfl rfl rfl rfl rfl J9 rfl ?_;refine RH.pure aa hQ [6] J7 rfl ?_;refine RH.load aa hQ 7 (fun m' bm=>by rw [bm];exact hy 0 _ rfl) rfl J7 rfl rfl rfl rfl ?_;refine RH.pure aa hQ [8] J7 rfl ?_;refine RH.load aa hQ 9 (fun m' bm=>by rw [bm];exact su.cell 0 rfl) rfl J7 rfl rfl rfl rfl ?_;refine RH.pure aa hQ [10] J7 rfl ?_
     by_cases h1:y.c=x.c
     ·refine RH.eqv (v':=.bool true) (xZ _ Ji) ?_;refine RH.pure aa hQ [11,12,13] J7 rfl ?_;refine RH.load aa hQ 14 (fun m' bm=>by rw [bm];exact su.cell 1 rfl) rfl J7 rfl rfl rfl rfl ?_;refine RH.pure aa hQ [15,16] J7 rfl ?_;refine RH.indexAddr aa hQ 17 (k:=r'.length) rfl J7 rfl rfl rfl rfl rfl rfl rfl J9 rfl ?_;refine RH.pure aa hQ [18] J7 rfl ?_;refine RH.load aa hQ 19 (fun m' bm=>by rw [bm];exact hy 2 _ rfl) rfl J7 rfl rfl rfl rfl ?_;refine RH.pure aa hQ [20] J7 rfl ?_
      by_cases h2:x.f≤y.t
      ·refine RH.eqv (v':=.bool true) (xZ _ (by rw [iF x.f y.t y.t rfl];exact zW h2)) ?_;refine RH.pure aa hQ [21] J7 rfl ?_;refine RH.done J7 (fun _=>QN.calm ?_);refine YJ ?_;refine WP.da rfl ?_;have xu:Ev.Own m7 S5 167 3 (.slice (some ad5) (y::r').length c5) (y::r').length ((r'.reverse++[y]).flatMap rC):=by
        have:=EX;rw [tB]at this;exact this
       obtain ⟨g,cap,cur,mS,Is,rfl,G0,eG⟩:=xu.Ci (j:=r'.length*3+2) (by rw [iD];omega)
       injection mS with mS Fk
       injection mS with mS
       subst mS;refine YG ?_;refine WP.calm ?_;refine WP.dI (fun m'=>m'=m7) [12] J7 rfl ai.calm (fun hQ=>?_);refine RH.pure aa hQ [0,1,2,3] J7 rfl ?_;refine RH.indexAddr aa hQ 4 (k:=r'.length) rfl J7 rfl rfl rfl rfl rfl rfl rfl J9 rfl ?_;refine RH.pure aa hQ [5] J7 rfl ?_;refine RH.load aa hQ 6 (fun m' bm=>by rw [bm];exact hy 2 _ rfl) rfl J7 rfl rfl rfl rfl ?_;refine RH.pure aa hQ [7] J7 rfl ?_;refine RH.load aa hQ 8 (fun m' bm=>by rw [bm];exact su.cell 2 rfl) rfl J7 rfl rfl rfl rfl ?_;refine RH.pure aa hQ [9] J7 rfl ?_;refine RH.eqv (v':=.int .u64 (max y.t x.t:Nat)) (xZ _ (by show(if _ then _ else _:Int)=_;split<;>omega)) ?_;refine RH.indexAddr aa hQ 10 (k:=r'.length) rfl J7 rfl rfl rfl rfl rfl rfl rfl J9 rfl ?_;refine RH.eqv (v':=.pointer (some ⟨g,r'.length*3,none⟩)) (xZ (fun q=>Value.pointer (some q)) (by rw [av];show(⟨g,0+r'.length*3,none⟩:Addr)=_;rw [zU])) ?_;refine RH.pure aa hQ [11] J7 rfl ?_;refine RH.only 12 rfl J7 (fun _=>?_);refine RL.store aa Is (i:=r'.length*3+2) (v:=.int .u64 (max y.t x.t:Nat)) G0 rfl rfl rfl rfl rfl rfl ?_;intro m9 yb;have zb:=eG m9 _ yb;rw [show r'.length*3+2=r'.reverse.length*3+2 by rw [xC],zk,←tB]at zb;have gE:mg (y::r') x={y with t:=max y.t x.t}::r':=by rw [ig,yS ⟨h1,h2⟩]
       rw [gE]at dF;have pt:ek m4 [g] m9:=⟨PO.1.trans yb.ext (fun k hk=>.inr (PO.ge k hk)),PO.2⟩;refine RL.N1 (RF.last J7 (QN.calm ?_));refine YJ ?_;refine WP.exit (YD ?_);refine YG ?_;refine RL.pure aa 1 rfl ?_;refine RL.eqv (v':=.int .i64 ((i+1:Nat):Int)) (xZ _ Jb) ?_;refine RL.A1 aa rfl ?_;refine RL.N1 (QN.round (i+1,.slice (some ⟨g,0,none⟩) (y::r').length c5,[g]) YC ⟨by show i+1≤_;omega,?_,pt⟩ Jj);show Ev.Own m9 [g] 167 3 _ ((l'.take (i+1)).foldl mg []).length (((l'.take (i+1)).foldl mg []).reverse.flatMap rC);rw [dF];exact zb
      ·refine RH.eqv (v':=.bool false) (xZ _ (by rw [iF x.f y.t y.t rfl];exact zV h2)) ?_;refine RH.pure aa hQ [21] J7 rfl ?_;refine RH.done J7 (fun _=>QN.calm ?_);refine YJ ?_;refine ae9 ?_;exact QN.ar () YC ⟨rfl,by rw [ig,zX (fun hh=>h2 hh.2)]⟩
     ·refine RH.eqv (v':=.bool false) (xZ _ Jg) ?_;refine RH.pure aa hQ [11,12,13,14,15,16,17,18,19,20,21] J7 rfl ?_;refine RH.done J7 (fun _=>QN.calm ?_);refine YJ ?_;refine ae9 ?_;exact QN.ar () YC ⟨rfl,by rw [ig,zX (fun hh=>h1 hh.1)]⟩
   ·
    rintro _ m' ⟨rfl,Vu⟩;rw [WY];refine YG ?_;rw [Vu]at dF;refine RL.sub (e':=[(18,.slice (some ad) l'.length c'),(19,.int .i64 l'.length),(5,.slice A5 r.length c5),(20,.int .i64 i),(7,.pointer (some ⟨b7,0,none⟩))]) YC ?_;refine ab3 ?_;refine RL.aJ aa (rC x) rfl rfl rfl (fun j u hu=>by rw [av];exact su.cell _ J2) rfl ?_;refine RL.dZ aa [.tmp 62] EX (us:=[rV x]) (rC x) rfl rfl rfl rfl rfl rfl rfl rfl rfl Jt Jw (gI x) Jy Jn ?_;intro v8 m8 S8 xu BC OH;refine ai2 ?_;refine ac6 ?_;refine aa6 ?_;have Fc:ek m4 S8 m8:=⟨PO.1.trans BC (fun k hk=>.inr (PO.ge k hk)),PO.2.trans OH PO.1.size⟩;refine RL.N1 (QN.round (i+1,v8,S8) YC ⟨by show i+1≤_;omega,?_,Fc⟩ Jj);show Ev.Own m8 S8 167 3 _ ((l'.take (i+1)).foldl mg []).length (((l'.take (i+1)).foldl mg []).reverse.flatMap rC);rw [dF,tB,←jd];exact xu
  ·have hc:i=l'.length:=by have:=vX hc;omega
   subst hc;rw [wF]at gZ;have jW:=nK l l' pk Gz;rw [jW]at gZ;have x5:(l'.foldl mg []).length=(clean l).length:=by rw [←jW,xC]
   rw [x5]at gZ;have SZ:m5.heap[D]?=some (.deferred (some [])):=(iS.1.ej D HQ YA).trans LZ;refine WP.exit (YD ?_);refine YG ?_;refine RL.A1 aa rfl ?_;refine RL.N1 (YE ?_);refine WP.ret (YI ?_);refine QN.oT ?_;refine QN.F9 (.inl rfl) SZ (fun m' hK VH=>⟨bY.tmp rfl rfl,⟨_,rfl,S5,gZ.kc hK,(Hp.trans iS.1 YA).Dp hK UE,iS.2.trans' Hp⟩⟩)
 ·rintro D c pre m' _ _ hx;exact hx.elim
open Go.Mrg
def cC(x:bB):List Value:=[.int .u64 x.c,.int .u64 x.k]
def cV(x:bB):Value:=.agg (cC x).toArray
theorem xp(x:bB):∀v∈cC x,v.oneCell'=true:=by intro v hv;simp [cC]at hv;rcases hv with rfl|rfl<;>rfl
theorem nL:∀l:List bB,(l.flatMap cC).length=l.length*2
 |[]=>rfl
 |x::l=>by simp [cC,nL l];omega
theorem CZ:∀(l:List bB) (k:Nat) (h:k<l.length) (j:Nat),j<2→(l.flatMap cC)[k*2+j]?=(cC l[k])[j]?
 |x::l,0,_,j,hj=>by
  rw [vH,vJ (by simp [cC];omega)];simp
 |x::l,k+1,h,j,hj=>by
  rw [vH,vM (by simp [cC];omega)];have:(k+1)*2+j-(cC x).length=k*2+j:=by simp [cC];omega
  rw [this,CZ l k J5 j hj];simp
theorem CP(l:List bB):∀u∈l.flatMap cC,u.oneCell'=true:=by
 intro u hu;obtain ⟨x,_,hx⟩:=vS.1 hu;exact xp x u hx
def Cs(m:World)(M:List Nat)(v:Value)(l:List bB):Prop:=Sl m M 2 v (l.flatMap cC)
theorem Cs.shape{m:World}{M:List Nat}{v:Value}{l:List bB}(h:Cs m M v l):∃A c,v=.slice A l.length c∧l.length≤c∧c≤maxLen:=Sl.shape h (nL l) J9
theorem Cs.bQ{m m':World}{v:Value}{l:List bB}(h:Cs m [] v l)(hE:Ext m [] m'):Cs m' [] v l:=Sl.ext h hE YA J9
theorem Cs.cell{m:World}{M:List Nat}{A:Option Addr}{n c:Nat}{l:List bB}(h:Cs m M (.slice A n c) l)(k:Nat)(hk:k<l.length):∃ad,A=some ad∧∀j u,(cC l[k])[j]?=some u→m.cell? ((ad.add (k*2)).add j)=some u:=by
 obtain ⟨hl,_⟩:=Sl.len h;rw [nL]at hl;obtain ⟨ad,rfl,_,hc⟩:=Sl.addr h J9;refine ⟨ad,rfl,fun j u hu=>?_⟩;have hj:j<2:=by have:=(yV.1 hu).1;simpa [cC]using this
 rw [add_add];exact hc _ u (by rw [CZ l k hk j hj];exact hu)
theorem Gt(l:List bB)(k:Nat):(l.flatMap cC).take (k*2)=(l.take k).flatMap cC:=by
 induction k generalizing l with
 |zero=>simp
 |succ k ih=>
  cases l with
  |nil=>simp
  |cons x l=>
   rw [vH,List.take_succ_cons,vH,←ih l,xQ,wQ];exact List.take_length_add_append (l₁:=cC x) (k*2)
theorem GZ(l:List bB)(k:Nat):(l.flatMap cC).drop (k*2)=(l.drop k).flatMap cC:=by
 induction k generalizing l with
 |zero=>simp
 |succ k ih=>
  cases l with
  |nil=>simp
  |cons x l=>
   exact ah6
theorem Dh(l:List bB)(p:Nat)(y:bB)(h:p<l.length):(l.flatMap cC).take (p*2)++cC y++(l.flatMap cC).drop (p*2+2)=(l.set p y).flatMap cC:=by
 rw [Gt,show p*2+2=(p+1)*2 by omega,GZ,List.set_eq_take_append_cons_drop,yS h];simp
theorem KC(a b:List bB):a.flatMap cC++b.flatMap cC=(a++b).flatMap cC:=by simp
end Go.Proofs.YtgpgladbdoimdaaGreatDoor
