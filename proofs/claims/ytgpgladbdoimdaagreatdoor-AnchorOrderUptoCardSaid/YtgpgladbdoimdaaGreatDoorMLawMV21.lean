/- Texts that belong together. -/
import Derived.Test.YtgpgladbdoimdaaGreatDoorMLawMV15
import Derived.Test.YtgpgladbdoimdaaGreatDoorMLawMV19
import Derived.Shelf.Utf8.RuneCount
import Derived.Lib.RuneCountTail
namespace Go.Proofs.YtgpgladbdoimdaaGreatDoor
open Go.RowKit Go.Ev Go.Ids
set_option maxRecDepth 20000
set_option maxHeartbeats 1000000
theorem k6:∀(n:Nat) (l:List UInt8) (r:List Nat),l.length≤n→aN l=some r→Lib.runeCount (str l)=r.length
 |0,l,r,hl,h=>by
  have:l=[]:=List.length_eq_zero_iff.1 J9;subst this;cases h;rfl
 |n+1,l,r,hl,h=>by
  by_cases h0:l=[]
  ·subst h0;cases h;rfl
  ·rw [dR l h0]at h
   split at h
   ·cases h
   ·rename_i hw;obtain ⟨r',h1,rfl⟩:=xN.1 h;have hd:=ql l hw;have aM:0<l.length:=List.length_pos_iff.2 h0;have VD:=(eX l h0).resolve_left hw;have ih:=k6 n (l.drop (nx l).2) r' Jp h1;rw [yF,←ih];obtain ⟨k,hk⟩:∃k,l.length=k+1:=⟨l.length-1,J9⟩;have e1:(Utf8.decode (str l) 0).2=(nx l).2:=by rw [hd];rfl
    unfold Lib.runeCount;rw [bV,bV,hk]
    conv=>lhs;unfold Lib.runeCountFrom
    rw [yS (by rw [bV];exact aM),zU,e1,wQ 1]
    congr 1
    have e2:str (l.drop (nx l).2)=(str l).extract (nx l).2 (str l).size:=by
     rw [kC,bV,yD (yP _)]
    rw [e2,Lib.tail_count,wJ];refine Lib.fuel_enough _ _ _ _ ?_ ?_
    ·rw [bV];omega
    ·rw [bV,zZ];omega
theorem Lm(l:List UInt8)(hl:l.length≤1000000)(h:(aN l).isSome=true):ee Tryz.prog 222 [.string (str l)] [aw] (.int .i64 ((aN l).getD []).length):=by
 intro m X hS;obtain ⟨r,hr⟩:=uL.1 h;refine ⟨⟨_,Tryz.func222,J7,J7⟩,fun w hs=>?_⟩;refine (Any.utf8_RuneCountInString Tryz.count (str l) w (by rw [bV];omega)).mono fun e w' ⟨he,pos,hb⟩=>?_
 subst hb;refine ⟨m.alloc (.stringIter (str l) pos),hs.alloc _,_,he,[],⟨by rw [k6 _ _ _ (yP _) hr,hr];rfl,rfl⟩,Tr.drop (H:=[]) (F:=[aw]) (hS.calm ((gD.alloc m _).new (yP _)))⟩
theorem HZ(l:List UInt8)(hl:l.length≤1000000)(h:(aN l).isSome=true):ee Tryz.prog 192 [.string (str l)] [aw] (.int .i64 ((aN l).getD []).length):=by
 intro m0 X hS;have hc:=nA l J9;rw [h]at hc;refine aP.zA Tryz.func192 ?_;refine go ?_;refine zJ hc (fun m hS=>?_);refine go ?_;refine zJ (Lm l hl h) (fun m hS=>?_);refine go ?_;exact QN.aj rfl rfl ⟨_,rfl,[],⟨rfl,rfl⟩,hS.tail⟩
theorem qF(o:a6)(g:Good o):ee Tryz.prog 158 [oV o] [aw] (.int .i64 o.n):=by
 intro m0 X hS;refine aP.zA Tryz.func158 ?_;refine aa5 ?_;intro b1 m hS
 by_cases hk:o.k=1
 ·have hd:((o.k:Int)==1)=true:=by simp;omega
  have hr:(aN o.t).isSome=true:=by
   rcases g.kind with h|h|h|h
   ·exact h.2.1
   all_goals omega
  rw [hd];refine go ?_;refine zJ (HZ o.t g.small hr) (fun m hS=>?_);refine go ?_;exact QN.aj rfl rfl ⟨_,rfl,[],⟨by rw [a6.n,yS hk],rfl⟩,hS.tail.tail⟩
 ·have hd:((o.k:Int)==1)=false:=by simp;omega
  rw [hd];refine go ?_;exact QN.aj rfl rfl ⟨_,rfl,[],⟨by rw [a6.n,zX hk];rfl,rfl⟩,hS.tail.tail⟩
def iR(o:a6):List Value:=[.int .u64 o.id.c,.int .u64 o.id.k,.int .u64 (o.id.k+o.n:Nat)]
theorem mX(o:a6)(g:Good o):ee Tryz.prog 122 [oV o] [aw] (.agg (iR o).toArray):=by
 intro m0 X hS;have ht:=g.top;have hn:=g.vq;have hw:IntKind.u64.wrap ((o.id.k:Int)+IntKind.u64.wrap (o.n:Int))=((o.id.k+o.n:Nat):Int):=by rw [aq (o.n:Int) J9 J9,aq _ J9 J9];omega
 refine aP.zA Tryz.func122 ?_;refine aa5 ?_;intro b1 m hS;refine ac3 ?_;clear hS;intro b2 m hS;refine aa1 ?_;refine RL.N1 (YJ ?_);refine YK ?_;refine WP.nM [ab b1 55 (oC o),aw] hS JD rfl J7 ?_;refine go ?_;refine zK (qF o g) (fun m hS=>?_);refine go ?_;rw [hw];refine ab2 ?_;refine aa2 ?_;intro m hS;refine ab9 ?_;refine go ?_;have hS:Tr m0 (au [aw]) X m [ab b2 167 (iR o),ab b1 55 (oC o),aw]:=hS;exact QN.bH (bY.MI aa hS rfl rfl rfl JQ) ⟨_,rfl,[],⟨rfl,rfl⟩,hS.tail.tail.tail⟩
theorem DQ(n:Nat)(h:Pe n):ee Tryz.prog 195 [.int .u64 n] [] (.bool true):=by
 intro m0 X hS;obtain ⟨h1,h2⟩:=h;have hd:decide ((n:Int)≥1)=true:=zW J9;have ug:decide ((n:Int)≤9007199254740991)=true:=zW J9;refine aP.zA Tryz.func195 ?_;refine go ?_;rw [hd];refine go ?_;rw [ug];exact QN.aj rfl rfl ⟨_,rfl,[],⟨rfl,rfl⟩,hS⟩
theorem Mq(k:List UInt8)(h:nY k):ee Tryz.prog 194 [.string (str k)] [aw] (.bool true):=by
 intro m0 X hS;obtain ⟨h1,h2,h3⟩:=h;have hv:=wj k J9;rw [h3]at hv;have hd:decide (((str k).size:Int)≤64)=true:=zW (by rw [bV];omega);have he:k.isEmpty=false:=by cases k;simp at h1;rfl
 refine aP.zA Tryz.func194 ?_;refine go ?_;rw [bZ,he];refine go ?_;rw [hd];refine go ?_;refine zJ hv (fun m hS=>?_);refine go ?_;exact ab6
theorem FT(v:Vl)(b:Bool)(h:v.Ok)(hb:b=true∨v.k≠5):ee Tryz.prog 193 [vV v,.bool b] [aw] (.bool true):=by
 intro m0 X hS;refine aP.zA Tryz.func193 ?_;refine aa5 ?_;intro b1 m hS;refine zJ (Hi v h) (fun m hS=>?_);refine go ?_;cases b with
 |true=>
  exact ae7
 |false=>
  have h5:=hb.resolve_left YA;refine go ?_;have hd:((v.k:Int)!=5)=true:=by simp;omega
  rw [hd];exact ae7
theorem QB(i:aL)(h:named i=true):ee Tryz.prog 155 [iV i] [] (.bool true):=by
 intro m0 X hS;refine aP.zA Tryz.func155 ?_;refine aa5 ?_;intro b1 m hS;refine RL.binOp (cX i ⟨0,0⟩) (aY _ _ _ _ _) rfl rfl rfl rfl ?_
 by_cases h0:i=⟨0,0⟩
 ·rw [zW h0];refine go ?_;exact ab6
 ·rw [zV h0];have hr:i.right=true:=by
   unfold named at h;rw [wS]at h;exact h.resolve_left (by rw [vY];exact h0)
  have hp:=ja i;rw [hr]at hp;refine go ?_;refine zJ hp (fun m hS=>?_);refine go ?_;exact QN.aj rfl rfl ⟨_,rfl,[],⟨rfl,rfl⟩,hS.tail⟩
theorem O8(o:a6)(g:Good o):ee Tryz.prog 152 [oV o] [aw] (.tuple #[oV o,.bool true]):=by
 intro m0 X hS;have gk:=g.kind;refine aP.zA Tryz.func152 ?_;refine go ?_;refine RL.bn hS rfl rfl rfl ?_;(try clear hS);intro b1 m hS;refine ⟨_,rfl,?_⟩;refine go ?_;refine RL.aU aa rfl hS rfl rfl ?_;(try clear hS);intro b2 m hS;refine ⟨_,rfl,?_⟩;refine go ?_;refine RL.aU aa rfl hS rfl rfl ?_;(try clear hS);intro b3 m hS;refine ⟨_,rfl,?_⟩;refine go ?_;refine RL.er aa hS rfl rfl rfl rfl rfl YB YB JN YB ?_;(try clear hS);intro m hS;refine go ?_;rcases gk with⟨h1,h2,h3,h4,h5,h6,h7,h8,h9,Gd⟩|⟨h1,h2,h3,h4,h5,h6,h7,h8,h9⟩|⟨h1,h2,h3,h4,h5,h6,h7,h8,h9⟩|⟨h1,h2,h3,h4,h5,h6,h7,h8,h9⟩
 ·have he:o.t.isEmpty=false:=by
   cases ht:o.t with
   |nil=>rw [a6.n,yS h1,ht]at h3;simp [gM]at h3
   |cons a l=>rfl
  have hlen:=HZ o.t g.small h2;have Xe:decide ((((aN o.t).getD []).length:Int)≤4096)=true:=zW (by rw [a6.n,yS h1]at h4;omega);have RQ:=nA o.t (by have:=g.small;omega);rw [h2]at RQ;rw [h1];refine go ?_;refine WP.exit (YD ?_);refine YG ?_;refine go ?_;refine RL.aO aa hS rfl rfl rfl rfl YB YB JN YB ?_;(try clear hS);intro m hS;refine go ?_;refine zJ RQ (fun m hS=>?_);refine go ?_;rw [bZ,he];refine go ?_;refine zJ hlen (fun m hS=>?_);refine RL.A1 aa rfl ?_;rw [Xe];refine RL.A1 aa rfl ?_;refine RL.N1 (YJ ?_);refine YK ?_;refine WP.bG [ab b1 55 (oC o),aw] hS JD J7 ?_;refine go ?_;refine RH.one rfl J7 rfl ?_;refine RL.er aa hS rfl rfl rfl rfl rfl YB YB JN YB ?_;(try clear hS);intro m hS;refine RL.N1 (RH.aD hS JD ?_);refine go ?_;refine RH.one rfl J7 rfl ?_;refine RL.er aa hS rfl rfl rfl rfl rfl YB YB JN YB ?_;(try clear hS);intro m hS;refine RL.N1 (RH.aD hS JD ?_);refine go ?_;refine WP.exit (YD ?_);refine YG ?_;refine go ?_;refine RL.er aa hS rfl rfl rfl rfl rfl YB YB JN YB ?_;(try clear hS);intro m hS;refine go ?_;have hS:Tr m0 (au [aw]) X m [ab b3 55 (oC o),ab b2 55 (oC o),ab b1 55 (oC o),aw]:=by
   refine Eq.mp ?_ hS;simp [oC,h1,h5,h6,h7,h8,h9,Gd,Vl.zero,O0,str]
  exact ae6
 ·rw [h1];refine go ?_;refine ac2 ?_;refine ag5 ?_;intro m hS;refine zJ (FT o.v false h2 (.inr h3)) (fun m hS=>?_);refine aa9 ?_;refine YK ?_;refine WP.bG [ab b1 55 (oC o),aw] hS JD J7 ?_;refine ad1 ?_;intro m hS;refine ab2 ?_;refine aa2 ?_;intro m hS;refine ae8 ?_;refine go ?_;refine ac2 ?_;refine ag5 ?_;intro m hS;have hS:Tr m0 (au [aw]) X m [ab b3 55 (oC o),ab b2 55 (oC o),ab b1 55 (oC o),aw]:=by
   refine Eq.mp ?_ hS;simp [oC,h1,h4,h5,h6,h7,h8,h9,O0,str]
  exact ae6
 ·rw [h1];refine go ?_;refine ac2 ?_;refine YK ?_;refine WP.bG [ab b1 55 (oC o),aw] hS JD J7 ?_;refine ad1 ?_;intro m hS;refine ab2 ?_;refine aa2 ?_;intro m hS;refine ae8 ?_;refine go ?_;refine zJ (FT o.v false h2 (.inr h3)) (fun m hS=>?_);refine go ?_;rw [h1];refine WP.bg rfl ?_;refine ab7 ?_;refine WP.bG [ab b1 55 (oC o),aw] hS JD J7 ?_;refine go ?_;refine ab2 ?_;refine aa4 ?_;intro m hS;refine ae8 ?_;refine ad1 ?_;intro m hS;refine ab2 ?_;refine aa4 ?_;intro m hS;refine ae8 ?_;refine go ?_;refine zJ (Mq o.key h5) (fun m hS=>?_);refine go ?_;refine zJ (DQ o.st h4) (fun m hS=>?_);refine go ?_;refine ac2 ?_;refine ag5 ?_;intro m hS;have hS:Tr m0 (au [aw]) X m [ab b3 55 (oC o),ab b2 55 (oC o),ab b1 55 (oC o),aw]:=by
   refine Eq.mp ?_ hS;simp [oC,h1,h6,h7,h8,h9,O0,str]
  exact ae6
 ·rw [h1];refine go ?_;refine ac2 ?_;refine go ?_;rw [h1];refine ag5 ?_;intro m hS;refine zJ (FT o.v true h2 (.inl rfl)) (fun m hS=>?_);refine aa9 ?_;refine YK ?_;refine WP.bG [ab b1 55 (oC o),aw] hS JD J7 ?_;refine go ?_;refine ab2 ?_;refine aa4 ?_;intro m hS;refine ae8 ?_;refine ad1 ?_;intro m hS;refine ab2 ?_;refine aa4 ?_;intro m hS;refine ae8 ?_;refine go ?_;refine zJ (Mq o.key h4) (fun m hS=>?_);refine go ?_;refine zJ (DQ o.st h3) (fun m hS=>?_);refine go ?_;refine ac2 ?_;refine ag5 ?_;intro m hS;have hS:Tr m0 (au [aw]) X m [ab b3 55 (oC o),ab b2 55 (oC o),ab b1 55 (oC o),aw]:=by
   refine Eq.mp ?_ hS;simp [oC,h1,h5,h6,h7,h8,h9,O0,str]
  exact ae6
end Go.Proofs.YtgpgladbdoimdaaGreatDoor
