/- Texts that belong together. -/
import Derived.Test.YtgpgladbdoimdaaGreatDoorMLawMV10
import Derived.Test.YtgpgladbdoimdaaGreatDoorMLawMV11
namespace Go.Proofs.YtgpgladbdoimdaaGreatDoor
open Go.RowKit Go.Ev Go.Ids
set_option maxRecDepth 20000
set_option maxHeartbeats 1000000
theorem bZ(a:List UInt8):((str a).toList==(ByteArray.mk #[]).toList)=a.isEmpty:=by
 have:=NY a [];show((str a).toList==(str []).toList)=_;rw [this];cases a<;>simp
theorem HD(f:Nat):ee Tryz.prog 198 [.float .f64 f] [] (.bool (sO f)):=by
 intro m0 X hS;refine aP.zA Tryz.func198 ?_;exact ac4
theorem BD(f:Nat):ee Tryz.prog 253 [.float .f64 f] [] (.int .u64 (ef f)):=by
 intro m0 X hS;refine aP.zA Tryz.func253 ?_;refine go ?_;refine zJ (HD f) (fun m hS=>?_);cases h:sO f with
 |true=>
  refine go ?_;exact QN.aj rfl rfl ⟨_,rfl,[],⟨by rw [ef,yS h];rfl,rfl⟩,hS⟩
 |false=>
  refine go ?_;refine ad9 ?_;refine go ?_;exact QN.aj rfl rfl ⟨_,rfl,[],⟨by rw [ef,zX (by rw [h];simp)],rfl⟩,hS⟩
theorem rD(v:Vl):ee Tryz.prog 159 [vV v] [] (vV v.clean):=by
 intro m0 X hS;refine aP.zA Tryz.func159 ?_;refine aa5 ?_;intro b1 m hS;refine ac3 ?_;(try clear hS);intro b2 m hS;refine ab4 ?_;refine zJ (HD v.f) (fun m hS=>?_);cases h:sO v.f with
 |true=>
  refine go ?_;refine RL.ext (v:=.float .f64 9221120237041090560) (ex:=Extern.MathFloatBits.float64frombits) Tryz.func98 rfl rfl rfl rfl rfl rfl rfl (fun w=>rfl) rfl ?_;refine aj0 ?_;intro m hS;refine ag5 ?_;intro m hS;exact QN.bH (bY.MI aa hS rfl rfl rfl JQ) ⟨_,rfl,[],⟨by simp [vV,vC,Vl.clean,ef,h],rfl⟩,hS.tail.tail⟩
 |false=>
  refine ag5 ?_;intro m hS;exact QN.bH (bY.MI aa hS rfl rfl rfl JQ) ⟨_,rfl,[],⟨by simp [vV,vC,Vl.clean,ef,h],rfl⟩,hS.tail.tail⟩
theorem Hi(v:Vl)(h:v.Ok):bu Tryz.prog 223 [vV v] [aw] (fun r H=>r=.int .i64 0∧H=[]):=by
 intro m0 X hS;obtain ⟨k,n,f,s⟩:=v;have fin:∀{m:World} {b1 b2:Nat} {c1 c2:List Value},Tr m0 (au [aw]) X m [ab b2 53 c2,ab b1 53 c1,aw]→Tr m0 (au [aw]) X m []:=fun h=>h.tail.tail.tail
 refine aP.zA Tryz.func223 ?_;refine aa5 ?_;intro b1 m hS;refine ac3 ?_;(try clear hS);intro b2 m hS;refine aa1 ?_;have bz:=BD 0;have b0:ef 0=0:=by simp [ef,qC]
 rw [b0]at bz;rcases h with⟨h1,h2,h3,h4⟩|⟨h1,h2,h3,h4⟩|⟨h1,h2,h3,h4⟩|⟨h1,h3,h4⟩|⟨h1,h2,h4⟩|⟨h1,h2,h3,h4,h5⟩
 ·obtain rfl:k=0:=h1;obtain rfl:n=0:=h2;obtain rfl:f=0:=h3;obtain rfl:s=[]:=h4;refine go ?_;rw [bZ];refine go ?_;refine RH.bU (fi:=[]) (ca:=[]) hS bz rfl J7 rfl rfl rfl rfl rfl JB (an.self _) rfl (fun m hS=>?_);refine go ?_;refine RH.bU (fi:=[]) (ca:=[]) hS bz rfl J7 rfl rfl rfl rfl rfl JB (an.self _) rfl (fun m hS=>?_);exact ae1
 ·obtain rfl:k=5:=h1;obtain rfl:n=0:=h2;obtain rfl:f=0:=h3;obtain rfl:s=[]:=h4;refine go ?_;rw [bZ];refine go ?_;refine RH.bU (fi:=[]) (ca:=[]) hS bz rfl J7 rfl rfl rfl rfl rfl JB (an.self _) rfl (fun m hS=>?_);refine go ?_;refine RH.bU (fi:=[]) (ca:=[]) hS bz rfl J7 rfl rfl rfl rfl rfl JB (an.self _) rfl (fun m hS=>?_);exact ae1
 ·obtain rfl:k=1:=h1;obtain rfl:f=0:=h3;obtain rfl:s=[]:=h4;refine go ?_;rcases h2 with h2|h2
  ·obtain rfl:n=0:=h2;refine aj0 ?_;intro m hS;refine go ?_;rw [bZ];refine go ?_;refine RH.bU (fi:=[]) (ca:=[]) hS bz rfl J7 rfl rfl rfl rfl rfl JB (an.self _) rfl (fun m hS=>?_);refine go ?_;refine RH.bU (fi:=[]) (ca:=[]) hS bz rfl J7 rfl rfl rfl rfl rfl JB (an.self _) rfl (fun m hS=>?_);exact ae1
  ·obtain rfl:n=1:=h2;refine aj0 ?_;intro m hS;refine go ?_;rw [bZ];refine go ?_;refine RH.bU (fi:=[]) (ca:=[]) hS bz rfl J7 rfl rfl rfl rfl rfl JB (an.self _) rfl (fun m hS=>?_);refine go ?_;refine RH.bU (fi:=[]) (ca:=[]) hS bz rfl J7 rfl rfl rfl rfl rfl JB (an.self _) rfl (fun m hS=>?_);exact ae1
 ·obtain rfl:k=2:=h1;obtain rfl:f=0:=h3;obtain rfl:s=[]:=h4;refine aj0 ?_;intro m hS;refine go ?_;rw [bne_self_eq_false];refine go ?_;rw [bZ];refine go ?_;refine RH.bU (fi:=[]) (ca:=[]) hS bz rfl J7 rfl rfl rfl rfl rfl JB (an.self _) rfl (fun m hS=>?_);refine go ?_;refine RH.bU (fi:=[]) (ca:=[]) hS bz rfl J7 rfl rfl rfl rfl rfl JB (an.self _) rfl (fun m hS=>?_);exact ae1
 ·obtain rfl:k=3:=h1;obtain rfl:n=0:=h2;obtain rfl:s=[]:=h4;refine aj0 ?_;intro m hS;refine go ?_;rw [bZ];refine go ?_;refine RH.bU (fi:=[]) (ca:=[]) hS (BD f) rfl J7 rfl rfl rfl rfl rfl JB (an.self _) rfl (fun m hS=>?_);refine go ?_;refine RH.bU (fi:=[]) (ca:=[]) hS (BD f) rfl J7 rfl rfl rfl rfl rfl JB (an.self _) rfl (fun m hS=>?_);refine go ?_;rw [bne_self_eq_false];exact ae1
 ·obtain rfl:k=4:=h1;obtain rfl:n=0:=h2;obtain rfl:f=0:=h3;refine go ?_;have hd:decide (((str s).size:Int)>4096)=false:=zV (by rw [bV];have:s.length≤4096:=h4;omega);rw [hd];refine go ?_;have hv:=wj s (by have:s.length≤4096:=h4;omega);rw [show(aN s).isSome=true from h5]at hv;refine zJ hv (fun m hS=>?_);refine go ?_;refine RL.aO aa hS rfl rfl rfl rfl YB YB JN YB ?_;(try clear hS);intro m hS;refine go ?_;rw [tH];refine go ?_;refine RH.bU (fi:=[]) (ca:=[]) hS bz rfl J7 rfl rfl rfl rfl rfl JB (an.self _) rfl (fun m hS=>?_);refine go ?_;refine RH.bU (fi:=[]) (ca:=[]) hS bz rfl J7 rfl rfl rfl rfl rfl JB (an.self _) rfl (fun m hS=>?_);refine go ?_;exact QN.aj rfl rfl ⟨_,rfl,[],⟨rfl,rfl⟩,fin hS⟩
theorem Hk(a:Int):ee Tryz.prog 273 [.int .i64 a] [] (.bool false):=by
 intro m0 X hS;refine aP.zA Tryz.func273 ?_;refine go ?_;rw [bne_self_eq_false];exact QN.aj rfl rfl ⟨_,rfl,[],⟨rfl,rfl⟩,hS⟩
theorem GL(a:Int):ee Tryz.prog 274 [.int .i64 a] [] (.bool false):=by
 intro m0 X hS;refine aP.zA Tryz.func274 ?_;refine go ?_;rw [bne_self_eq_false];exact QN.aj rfl rfl ⟨_,rfl,[],⟨rfl,rfl⟩,hS⟩
theorem Si(f:Nat):ee Tryz.prog 285 [.float .f64 f] [] (.bool (sO f)):=by
 intro m0 X hS;refine aP.zA Tryz.func285 ?_;exact ac4
theorem Pn(a:Int):ee Tryz.prog 254 [.int .i64 a,.int .i64 a] [] (.int .i64 0):=by
 intro m0 X hS;have hd:decide (a<a)=false:=zV J9;have ug:decide (a>a)=false:=zV J9;refine aP.zA Tryz.func254 ?_;refine go ?_;refine zJ (Hk a) (fun m hS=>?_);refine go ?_;refine zJ (Hk a) (fun m hS=>?_);refine go ?_;rw [hd];refine go ?_;rw [ug];refine go ?_;exact QN.aj rfl rfl ⟨_,rfl,[],⟨rfl,rfl⟩,hS⟩
theorem PA(a:Int):ee Tryz.prog 255 [.int .i64 a,.int .i64 a] [] (.int .i64 0):=by
 intro m0 X hS;have hd:decide (a<a)=false:=zV J9;have ug:decide (a>a)=false:=zV J9;refine aP.zA Tryz.func255 ?_;refine go ?_;refine zJ (GL a) (fun m hS=>?_);refine go ?_;refine zJ (GL a) (fun m hS=>?_);refine go ?_;rw [hd];refine go ?_;rw [ug];refine go ?_;exact QN.aj rfl rfl ⟨_,rfl,[],⟨rfl,rfl⟩,hS⟩
def Lj(f:Nat):Bool:=decide (IntKind.i64.wrap (f:Int)<0)
theorem Bq(f:Nat):ee Tryz.prog 277 [.float .f64 f] [] (.bool (Lj f)):=by
 intro m0 X hS;refine aP.zA Tryz.func277 ?_;refine go ?_;refine ad9 ?_;exact ac4
def jX(f:Nat):Nat×Nat:=if sO f then(1,0)else if FloatKind.f64.format.order f 0==some .eq&&Lj f then(0,0)else(0,f)
theorem N4(f:Nat):ee Tryz.prog 275 [.float .f64 f] [] (.tuple #[.int .i64 (jX f).1,.float .f64 (jX f).2]):=by
 intro m0 X hS;refine aP.zA Tryz.func275 ?_;refine go ?_;refine zJ (HD f) (fun m hS=>?_);cases h:sO f with
 |true=>
  refine go ?_;exact QN.dW rfl rfl rfl ⟨_,rfl,[],⟨by simp [jX,h],rfl⟩,hS⟩
 |false=>
  refine go ?_;cases h2:(FloatKind.f64.format.order f 0==some .eq)with
  |true=>
   refine go ?_;refine zJ (Bq f) (fun m hS=>?_);cases h3:Lj f with
   |true=>
    refine go ?_;exact QN.dW rfl rfl rfl ⟨_,rfl,[],⟨by simp [jX,h,h2,h3],rfl⟩,hS⟩
   |false=>
    refine go ?_;exact QN.dW rfl rfl rfl ⟨_,rfl,[],⟨by simp [jX,h,h2,h3],rfl⟩,hS⟩
  |false=>
   refine go ?_;exact QN.dW rfl rfl rfl ⟨_,rfl,[],⟨by simp [jX,h,h2],rfl⟩,hS⟩
theorem Ey(f:Nat):(jX f).1≠1→FloatKind.f64.format.order (jX f).2 (jX f).2=some .eq:=by
 unfold jX
 split
 ·simp
 ·rename_i hn;intro _;have h0:FloatKind.f64.format.order 0 0=some .eq:=by decide+kernel
  split
  ·exact h0
  ·rcases Bi f with h|h
   ·exact absurd (by simp [sO,h]) hn
   ·exact h
end Go.Proofs.YtgpgladbdoimdaaGreatDoor
