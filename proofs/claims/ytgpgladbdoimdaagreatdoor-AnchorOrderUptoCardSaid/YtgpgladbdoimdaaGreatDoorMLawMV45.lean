/- Texts that belong together. -/
import Derived.Test.YtgpgladbdoimdaaGreatDoorMLawMV61
import Derived.Test.YtgpgladbdoimdaaGreatDoorMLawMV62
import Derived.Test.YtgpgladbdoimdaaGreatDoorMLawMV63
import Derived.Test.YtgpgladbdoimdaaGreatDoorMLawMV64
import Derived.Test.YtgpgladbdoimdaaGreatDoorMLawMV65
namespace Go.Proofs.YtgpgladbdoimdaaGreatDoor
open Go.ChangeShapes Go.WideShapes Go.ChangeAt Go.RowKit Go.Ev Go.Ids Go.SeqP
set_option maxRecDepth 20000
set_option maxHeartbeats 12000000
theorem II(S:List Nat)(d:Nat)(x:Rx)(n:Nat)(hs:Mg x n)(hn:n≤200)(hi:TO x)(c:Nat)(hc:1≤c∧c≤9007199254740991)(e:Ed)(he:EZ e)(vp:Value)(path:List (List UInt8))(A0:path.length≤1000):
  bu Tryz.prog 17 [pA d,.int .u64 c,eV e vp] [cN S d x,bW 1 vp (path.flatMap sC)] (fun r H=>∃(ev:Int) (vo vt:Value) (os:List a6) (ts:List aK) (S':List Nat),r=.tuple #[.agg #[vo,vt],.int .i64 ev]∧(ev=0→H6 x c e os ts)∧(ev≠0→os=[]∧ts=[])∧H=[dO vo os,gh vt ts,cN S' d x]):=by
 have h:=he.k;rcases(show e.k=1∨e.k=2∨e.k=3∨e.k=4∨e.k=5 by omega)with k|k|k|k|k
 ·exact II1 S d x n hs hn hi c hc e he vp path A0 k
 ·exact II2 S d x n hs hn hi c hc e he vp path A0 k
 ·exact II3 S d x n hs hn hi c hc e he vp path A0 k
 ·exact II4 S d x n hs hn hi c hc e he vp path A0 k
 ·exact II5 S d x n hs hn hi c hc e he vp path A0 k
end Go.Proofs.YtgpgladbdoimdaaGreatDoor
