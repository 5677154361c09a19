/- What is needed beyond the texts below. -/
import Derived.Test.YtgpgladbdoimdaaGreatDoorMLawMV50
import Derived.JoinedCond
import Derived.LaidLaws
namespace Go.AncP
section
variable{α:Type} [DecidableEq α]
theorem sub_of_idx:∀{l:List α} {x u:α},x∈l→u∈l→l.idxOf x<l.idxOf u→[x,u].Sublist l
 |a::l,x,u,hx,hu,h=>by
  rw [List.idxOf_cons,List.idxOf_cons]at h
  by_cases h1:a=x
  ·subst h1;have dP:¬a=u:=fun hh=>by subst hh;simp at h
   rcases List.mem_cons.1 hu with rfl|hu
   ·exact absurd rfl dP
   ·exact .cons_cons _ (List.singleton_sublist.2 hu)
  ·rcases List.mem_cons.1 hx with rfl|hx
   ·exact absurd rfl h1
   ·by_cases h2:a=u
    ·subst h2;simp at h
    ·rcases List.mem_cons.1 hu with rfl|hu
     ·exact absurd rfl h2
     ·simp only [beq_iff_eq,h1,h2,Bool.cond_eq_ite,if_false]at h;exact .cons _ (sub_of_idx hx hu (by omega))
theorem idx_of_sub:∀{l:List α} {x u:α},l.Nodup→[x,u].Sublist l→l.idxOf x<l.idxOf u
 |a::l,x,u,hn,h=>by
  obtain ⟨h1,h2⟩:=List.nodup_cons.1 hn;rw [List.idxOf_cons,List.idxOf_cons];rcases h with _|h|h
  ·rename_i h;have hx:x∈l:=h.subset (by simp);have hu:u∈l:=h.subset (by simp);have e1:¬a=x:=fun hh=>h1 (hh▸hx)
   have e2:¬a=u:=fun hh=>h1 (hh▸hu)
   have:=idx_of_sub h2 h;simp only [beq_iff_eq,e1,e2,Bool.cond_eq_ite,if_false];omega
  ·rename_i h;have hu:u∈l:=List.singleton_sublist.1 h;have e2:¬a=u:=fun hh=>h1 (hh▸hu)
   simp [e2,Bool.cond_eq_ite]
theorem idx_sub{l l':List α}{x u:α}(hs:l.Sublist l')(hn:l'.Nodup)(hx:x∈l)(hu:u∈l):l.idxOf x<l.idxOf u↔l'.idxOf x<l'.idxOf u:=by
 refine ⟨fun h=>idx_of_sub hn ((sub_of_idx hx hu h).trans hs),fun h=>?_⟩;rcases Nat.lt_trichotomy (l.idxOf x) (l.idxOf u)with h1|h1|h1
 ·exact h1
 ·have:x=u:=by
   have e1:=List.getElem_idxOf (List.idxOf_lt_length_of_mem hx);have e2:=List.getElem_idxOf (List.idxOf_lt_length_of_mem hu);rw [←e1,←e2];simp only [h1]
  subst this;omega
 ·have:=idx_of_sub hn ((sub_of_idx hu hx h1).trans hs);omega
theorem gap_sub{l l':List α}{i:Option α}{b:Bool}{g:Nat}(hs:l.Sublist l')(hn:l'.Nodup)(h:P5 l i b=some g):∃g',P5 l' i b=some g'∧∀x∈l,(l.idxOf x<g↔l'.idxOf x<g'):=by
 cases i with
 |none=>
  refine ⟨_,rfl,fun x hx=>?_⟩;simp only [P5,Option.some.injEq]at h;subst h;have h1:=List.idxOf_lt_length_of_mem hx;have h2:=List.idxOf_lt_length_of_mem (hs.subset hx);cases b<;>simp [h1,h2]
 |some u=>
  unfold P5 at h;simp only at h
  split at h
  ·rename_i hu;cases h;refine ⟨l'.idxOf u+if b then 1 else 0,by simp [P5,hs.subset hu],fun x hx=>?_⟩;have h1:=idx_sub hs hn hx hu;have h2:=idx_sub hs hn hu hx;cases b<;>simp<;>omega
  ·cases h
theorem order{p p':α→Bool}{l l':List α}{k k2:Nat}{b:Bool}(hs:l.Sublist l')(hn:l'.Nodup)(hk:k≤k2)(sL:k2≤(l.filter p).length):
  ∃i c g' i2 c2 g2,mk (l.filter p) k b=some (i,c)∧P5 l' i c=some g'∧mk (l.filter p) k2 b=some (i2,c2)∧P5 l' i2 c2=some g2∧rH p' l' g'≤rH p' l' g2:=by
 obtain ⟨i,c,g,h1,h2,h3,hm⟩:=Nr (p:=p) (b:=b) (hn.sublist hs) (Nat.le_trans hk sL);obtain ⟨i2,c2,g2,k1,k2',k3,hm2⟩:=Nr (p:=p) (b:=b) (hn.sublist hs) sL;obtain ⟨g',h4,h5⟩:=gap_sub hs hn h2;obtain ⟨g2',k4,k5⟩:=gap_sub hs hn k2';refine ⟨i,c,g',i2,c2,g2',h1,h4,k1,k4,Hl p' l' ?_⟩;rcases Nat.eq_or_lt_of_le hk with rfl|aM
 ·rw [h1]at k1;cases k1;rw [h4]at k4;cases k4;omega
 ·
  have hx:=List.getElem?_eq_getElem (show k<(l.filter p).length by omega);have qa:=(List.mem_filter.1 (List.mem_of_getElem? hx)).1;have a1:=(G6 (p:=p) (g:=g) (hn.sublist hs) hx);have a2:=(G6 (p:=p) (g:=g2) (hn.sublist hs) hx);have a3:=h5 _ qa;have a4:=k5 _ qa;omega
end
end Go.AncP
namespace Go.Proofs.YtgpgladbdoimdaaGreatDoor
open Go.RowKit Go.Ev Go.Ids Go.SeqP Go.AncP
theorem law_order{q q':Us}(hq:q.Ok)(pR:q'.Ok)(D D':List aG)(hs:(jI q.ax).Sublist (jI q'.ax))(k k2:Nat)(b:Bool)(hk:k≤k2)(sL:k2≤(lh D q).length):
  ∃n n2:Nat,gX D' q'.ax (dJ (lh D q) k b).1=((n:Int),true)∧gX D' q'.ax (dJ (lh D q) k2 b).1=((n2:Int),true)∧n≤n2:=by
 obtain ⟨i,c,g',i2,c2,g2,h1,h2,h3,h5,h6⟩:=order (p:=shown D) (p':=shown D') (b:=b) hs (show(jI q'.ax).Nodup from pR.lz) hk sL;obtain ⟨_,_,_,e1,_,_,h4⟩:=Nr (p:=shown D) (b:=b) (show(jI q.ax).Nodup from hq.lz) (Nat.le_trans hk sL);obtain ⟨_,_,_,e2,_,_,h7⟩:=Nr (p:=shown D) (b:=b) (show(jI q.ax).Nodup from hq.lz) sL;rw [h1]at e1;rw [h3]at e2;cases e1;cases e2;rw [show lh D q=(jI q.ax).filter (shown D) from rfl,Ks h1,Ks h3];exact ⟨_,_,IE pR.yk D' (fun x hx=>M1 hq x (h4 x hx)) h2,IE pR.yk D' (fun x hx=>M1 hq x (h7 x hx)) h5,h6⟩
open Go.ChangeShapes Go.WideShapes Go.ChangeAt
theorem upd_of{x:Rx}{l:List ia}{c:Nat}{e:Ed}{os:List a6}{ts:List aK}(hx:RD x l)(hc:1≤c)(hm:H6 x c e os ts):jN (nZ l) ⟨os,ts⟩:=by
 obtain ⟨k,rfl⟩:∃k,c=k+1:=⟨c-1,by omega⟩;exact (th (k:=k) (h:=l.length) (l:=l) (hx.i.sA fun c=>by
  unfold Kw
  split
  ·rfl
  ·rw [List.take_length]) hm).1
theorem qU_sub{q:Us}(hq:q.Ok)(os:List a6):(jI q.ax).Sublist (jI (qU os q).ax):=by
 unfold qU
 split
 ·exact .refl _
 ·rename_i o _
  split
  ·unfold Us.run
   split
   ·rename_i hr;have r:=Us.iM.1 hr;obtain ⟨n',xw⟩:∃n',o.n=n'+1:=⟨o.n-1,by have:=r.pos;omega⟩;have hu:=hq.BK r n' (by omega);rw [←xw]at hu;rw [hu];unfold jI;rw [List.map_append,List.map_append]
    conv=>lhs;rw [←List.take_append_drop (q.pl (oU o)) q.ax,List.map_append]
    exact (List.Sublist.refl _).append (List.sublist_append_right ..)
   ·exact .refl _
  ·exact .refl _
set_option maxRecDepth 20000
set_option maxHeartbeats 20000000
theorem order_s(wi:Int)(v:Value)(ls:List Nat)(Oa:∀n∈ls,n<4294967296)(a0 b0:Int)(after:Bool)(v9:Value)(tx:List (List UInt8))(mJ:∀t∈tx,t.length<1000000000):bu Tryz.prog 6 [.int .i64 wi,v,.int .i64 a0,.int .i64 b0,.bool after,v9] [aw,bW 1 v (ls.flatMap u4),bW 1 v9 (tx.flatMap sC)] (fun r H=>r=.bool true∧H=[]):=by
 intro m0 X hS;obtain ⟨M0,bR⟩:∃M0,M0=au [aw,bW 1 v (ls.flatMap u4),bW 1 v9 (tx.flatMap sC)]:=⟨_,rfl⟩;rw [←bR]at hS ⊢;obtain ⟨A,c,rfl,_,_,_⟩:=Sl.gY u4 oJ (hS.bE (show bW 1 v (ls.flatMap u4)∈_ from(by with_reducible repeat(first|exact zS ..|apply zO)))) (by decide);obtain ⟨A9,c9,rfl,_,_,hA9⟩:=Sl.gY sC xe (hS.bE (show bW 1 v9 (tx.flatMap sC)∈_ from(by with_reducible repeat(first|exact zS ..|apply zO)))) (by decide);refine aP.enter ⟨_,Tryz.func6,by kernel_rfl,by kernel_rfl⟩ Tryz.func6 rfl rfl ?_;refine ah ?_;refine RL.cM Hu ?_;clear hS;rintro _ m _ ⟨rfl,rfl⟩ hS;simp only [List.nil_append]at hS;refine ⟨_,rfl,?_⟩;refine ah ?_;rcases Nat.lt_or_ge 40 ls.length with aM|hle
 ·rw [decide_eq_true (show(ls.length:Int)>40 by omega)];refine ah ?_;exact QN.aj rfl rfl ⟨_,rfl,_,⟨rfl,rfl⟩,hS.drop (H:=[])⟩
 rw [decide_eq_false (show¬(ls.length:Int)>40 by omega)];refine ah ?_;rcases Nat.lt_or_ge 12 tx.length with aM|QP
 ·rw [decide_eq_true (show(tx.length:Int)>12 by omega)];refine ah ?_;exact QN.aj rfl rfl ⟨_,rfl,_,⟨rfl,rfl⟩,hS.drop (H:=[])⟩
 rw [decide_eq_false (show¬(tx.length:Int)>12 by omega)];refine ah ?_;refine RL.cM (L7 wi (.slice A ls.length c) ls (by omega) Oa) ?_;clear hS;rintro _ m _ ⟨d,e,y,S,x,l,rfl,hr,pY,hy,hx,rfl⟩ hS;obtain ⟨eD,eq_,P1,Ob,Fs⟩:=EJ hy hx;have VT:=hy.i.q;simp only [bC,zC,zN]at hS;have hS:=(hS.aH (Pre:=cN S e x::aw::bC d {y with S5:=y.S5} [bW 1 (.slice A9 tx.length c9) (tx.flatMap sC)]) (by repeat(first|with_reducible exact bk.nil|apply bk.ro (by repeat(first|exact zS ..|with_reducible apply zO)) (by rfl)|apply bk.own (by repeat(first|exact sY.head|with_reducible apply sY.tail))))).drop;have hL:lh x.D x.q=lh y.D y.q.toUs:=by rw [eD,eq_]
 obtain ⟨L,BJ⟩:∃L,L=lh y.D y.q.toUs:=⟨_,rfl⟩;have Fg:L.length≤1000000:=by
  rw [BJ,lh];refine Nat.le_trans (List.length_filter_le _ _) ?_;rw [jI,List.length_map];have:y.q.toUs.ax.length=y.q.us.length:=VT.sT;omega
 refine ⟨_,rfl,?_⟩;refine ah ?_;refine RL.cM (lV S e x (by rw [←eD];omega)) ?_;clear hS;rintro v2 m _ ⟨S3,S4,rfl⟩ hS;simp only [zC,zN]at hS;rw [py,hL,←BJ]at hS;obtain ⟨A2,c2,rfl,_⟩:=Ev.Own.shape (show Ev.Own m S3 30 2 v2 L.length (L.flatMap iC) from hS.head);have hS:=(hS.aH (Pre:=aw::bC d {y with S5:=y.S5} [cN S4 e x,bW 1 (.slice A9 tx.length c9) (tx.flatMap sC)]) (by repeat(first|with_reducible exact bk.nil|apply bk.ro (by repeat(first|exact zS ..|with_reducible apply zO)) (by rfl)|apply bk.own (by repeat(first|exact sY.head|with_reducible apply sY.tail))))).drop;refine ⟨_,rfl,?_⟩;refine aZ ?_;rw [ag ((L.length:Int)+1) (by omega) (by omega),show(L.length:Int)+1=((L.length+1:Nat):Int) by omega];refine ah ?_;have key:∀z:Int,∃n:Nat,z%((L.length+1:Nat):Int)=(n:Int)∧n≤L.length:=fun z=>by
  have h1:=Int.emod_nonneg z (show((L.length+1:Nat):Int)≠0 by omega);have h2:=Int.emod_lt_of_pos z (show(0:Int)<((L.length+1:Nat):Int) by omega);exact ⟨(z%((L.length+1:Nat):Int)).toNat,by omega,by omega⟩
 refine RL.cU (AJ a0 L.length (by omega)) (fun m hS=>?_) (hs:=.nil);obtain ⟨na,hna,hnal⟩:=key a0;rw [hna];refine aZ ?_;refine RL.cU (AJ b0 L.length (by omega)) (fun m hS=>?_) (hs:=.nil);obtain ⟨nb,WV,hnbl⟩:=key b0;rw [WV];refine aZ ?_;refine RL.N1 ?_;refine QN.N1 ?_;refine WP.cut (X:=Nat×Nat) (fun z=>[(2,.int .i64 z.1),(3,.int .i64 z.2),(4,.bool after),(5,.slice A9 tx.length c9),(13,pA d),(14,pA e)])
  (fun z m'=>(z.1≤z.2∧z.2≤L.length)∧Tr m0 M0 X m' (aw::bC d {y with S5:=y.S5} [cN S4 e x,bW 1 (.slice A9 tx.length c9) (tx.flatMap sC)])) ?_ ?_
 ·refine ah ?_;rcases Nat.lt_or_ge nb na with h|h
  ·rw [decide_eq_true (show(na:Int)>(nb:Int) by omega)];refine ah ?_;exact QN.ar (nb,na) (by repeat(first|exact Sub.nil|refine Sub.C1 rfl ?_)) ⟨⟨by dsimp only;omega,hnal⟩,hS⟩
  ·rw [decide_eq_false (show¬(na:Int)>(nb:Int) by omega)];refine ah ?_;exact QN.ar (na,nb) (by repeat(first|exact Sub.nil|refine Sub.C1 rfl ?_)) ⟨⟨by dsimp only;omega,hnbl⟩,hS⟩
 clear hS;rintro ⟨k1,k2⟩ m ⟨⟨hk,sL⟩,hS⟩;dsimp only at hk sL hS ⊢;refine ah ?_;refine RL.cM (rY d {y with S5:=y.S5} P1 (by show y.D.length≤_;omega) k1 after) ?_;clear hS;rintro _ m _ ⟨rfl,S5,rfl⟩ hS;simp only [bC,zC,zN]at hS;have hS:=(hS.aH (Pre:=aw::bC d {y with S5:=S5} [cN S4 e x,bW 1 (.slice A9 tx.length c9) (tx.flatMap sC)]) (by repeat(first|with_reducible exact bk.nil|apply bk.ro (by repeat(first|exact zS ..|with_reducible apply zO)) (by rfl)|apply bk.own (by repeat(first|exact sY.head|with_reducible apply sY.tail))))).drop;rw [show(im y.D y.q.ax).map (·.2.id)=L by rw [BJ];exact qR y.D y.q.toUs];have w1:(dJ L k1 after).2=true:=by rw [BJ];exact (E1 VT y.D k1 after (by rw [←BJ];omega)).1
 have w2:(dJ L k2 after).2=true:=by rw [BJ];exact (E1 VT y.D k2 after (by rw [←BJ];omega)).1
 rw [w1];obtain ⟨g1,X7⟩:∃g:sF,g=(dJ L k1 after).1:=⟨_,rfl⟩;rw [←X7];refine ⟨_,rfl,?_⟩;refine ah ?_
 (try clear hS);intro b16 m hS;refine ⟨_,rfl,?_⟩;refine ah ?_
 (try clear hS);intro m hS;refine ah ?_
 refine RL.cM (rY d {y with S5:=S5} P1 (by show y.D.length≤_;omega) k2 after) ?_;clear hS;rintro _ m _ ⟨rfl,S5,rfl⟩ hS;simp only [bC,zC,zN]at hS;have hS:=(hS.aH (Pre:=ab b16 32 (aC g1)::aw::bC d {y with S5:=S5} [cN S4 e x,bW 1 (.slice A9 tx.length c9) (tx.flatMap sC)]) (by repeat(first|with_reducible exact bk.nil|apply bk.ro (by repeat(first|exact zS ..|with_reducible apply zO)) (by rfl)|apply bk.own (by repeat(first|exact sY.head|with_reducible apply sY.tail))))).drop;rw [show(im y.D y.q.ax).map (·.2.id)=L by rw [BJ];exact qR y.D y.q.toUs,w2];obtain ⟨g2,Z5⟩:∃g:sF,g=(dJ L k2 after).1:=⟨_,rfl⟩;rw [←Z5];refine ⟨_,rfl,?_⟩;refine ah ?_
 (try clear hS);intro b18 m hS;refine ⟨_,rfl,?_⟩;refine ah ?_
 (try clear hS);intro m hS;refine ah ?_
 have hS:=(hS.aH (Pre:=cN S4 e x::bW 1 (.slice A9 tx.length c9) (tx.flatMap sC)::ab b18 32 (aC g2)::ab b16 32 (aC g1)::aw::bC d {y with S5:=S5} []) (by repeat(first|with_reducible exact bk.nil|apply bk.ro (by repeat(first|exact zS ..|with_reducible apply zO)) (by rfl)|apply bk.own (by repeat(first|exact sY.head|with_reducible apply sY.tail))))).drop;have Oq:DD {y with S5:=S5} l:=⟨hy.i.s5 _,hy.k,hy.q,hy.t,hy.cv⟩;refine (WP.eo (X:=Nat×List ia×Dx×List Nat×Rx) (fun z=>[(2,.int .i64 k1),(5,.slice A9 tx.length c9),(13,pA d),(14,pA e),(16,pA b16),(18,pA b18),(20,.int .i64 z.1)])
  (fun z m'=>(z.1≤tx.length∧DD z.2.2.1 z.2.1∧RD z.2.2.2.2 z.2.1∧z.2.1.length≤50+z.1∧(jI y.q.toUs.ax).Sublist (jI z.2.2.1.q.toUs.ax))∧Tr m0 M0 X m' (cN z.2.2.2.1 e z.2.2.2.2::bW 1 (.slice A9 tx.length c9) (tx.flatMap sC)::ab b18 32 (aC g2)::ab b16 32 (aC g1)::aw::bC d z.2.2.1 []))
  (fun z m'=>Tr m0 M0 X m' (cN z.2.2.2.1 e z.2.2.2.2::bW 1 (.slice A9 tx.length c9) (tx.flatMap sC)::ab b18 32 (aC g2)::ab b16 32 (aC g1)::aw::bC d z.2.2.1 []))
  (fun z=>tx.length-z.1) (0,l,{y with S5:=S5},S4,x) 0 (by repeat(first|exact Sub.nil|refine Sub.C1 rfl ?_)) ⟨⟨Nat.zero_le _,Oq,hx,by dsimp only;omega,.refl _⟩,hS⟩ ?_ ?_)
 ·clear hS;rintro ⟨i,l2,y2,S,x2⟩ m ⟨⟨hi,Rl,mH,zy,Bn⟩,hS⟩;dsimp only at hi Rl mH zy Bn hS ⊢;obtain ⟨eD2,eq2,hDc2,hDl2,hus2⟩:=EJ Rl mH;refine ah ?_;rcases Nat.lt_or_ge i tx.length with aM|fW
  ·rw [decide_eq_true (show(i:Int)<(tx.length:Int) by omega)];obtain ⟨t,ht⟩:∃t,tx[i]?=some t:=⟨_,List.getElem?_eq_getElem aM⟩;have px:=mJ t (List.mem_of_getElem? ht);obtain ⟨ad,rfl⟩:=hA9 i t ht;obtain ⟨L2,Xa⟩:∃L2,L2=lh y2.D y2.q.toUs:=⟨_,rfl⟩;have hL2l:L2.length≤1000000:=by
    rw [Xa,lh];refine Nat.le_trans (List.length_filter_le _ _) ?_;rw [jI,List.length_map];have h1:y2.q.toUs.ax.length=y2.q.us.length:=Rl.i.q.sT;omega
   refine ah ?_;obtain ⟨q,hq⟩:∃q:Nat,q=(k1+3*i)%(L2.length+1):=⟨_,rfl⟩;have hql:q<L2.length+1:=by rw [hq];exact Nat.mod_lt _ (Nat.succ_pos _)
   have hed:EZ ⟨1,q,0,t,.zero,[]⟩:=⟨⟨by dsimp only;omega,by dsimp only;omega⟩,by dsimp only;omega,by dsimp only;omega,by dsimp only;omega,.inl ⟨rfl,rfl,rfl,rfl⟩,fun h=>by rcases h with h|h<;>cases h⟩;have hS:=hS.gV 1 (by decide);have hS:Tr m0 M0 X _ (bW 1 (.slice none 0 0) (([]:List (List UInt8)).flatMap sC)::cN S e x2::bW 1 (.slice (some ad) tx.length c9) (tx.flatMap sC)::ab b18 32 (aC g2)::ab b16 32 (aC g1)::aw::bC d y2 []):=hS;refine WP.KK (X:=Nat×Int×Value×Value×List a6×List aK×List Nat) (fun z=>[(2,.int .i64 k1),(5,.slice (some ad) tx.length c9),(13,pA d),(14,pA e),(16,pA b16),(18,pA b18),(20,.int .i64 i),(21,pA z.1),(22,.int .i64 z.2.1)])
    (fun z m'=>(z.2.1=0→H6 x2 99 ⟨1,q,0,t,.zero,[]⟩ z.2.2.2.2.1 z.2.2.2.2.2.1)∧Tr m0 M0 X m' (ab z.1 58 [z.2.2.1,z.2.2.2.1]::dO z.2.2.1 z.2.2.2.2.1::gh z.2.2.2.1 z.2.2.2.2.2.1::cN z.2.2.2.2.2.2 e x2::bW 1 (.slice (some ad) tx.length c9) (tx.flatMap sC)::ab b18 32 (aC g2)::ab b16 32 (aC g1)::aw::bC d y2 [])) ?_ ?_
   ·refine WP.bG [bW 1 (.slice (some ad) tx.length c9) (tx.flatMap sC)] hS (by repeat(first|exact an.nil|refine an.cons (by with_reducible repeat(first|exact zS ..|apply zO)) ?_)) (by kernel_rfl) ?_;refine aZ ?_;refine RH.kh aa ai.calm sC xe (JS.bE (show bW 1 (.slice (some ad) tx.length c9) (tx.flatMap sC)∈_ from(by with_reducible repeat(first|exact zS ..|apply zO)))) ht 0 rfl rfl (by kernel_rfl) rfl rfl rfl (by rfl) rfl rfl rfl ?_;refine aZ ?_;rw [ag (3*(i:Int)) (by omega) (by omega),ag ((k1:Int)+3*(i:Int)) (by omega) (by omega),show(k1:Int)+3*(i:Int)=((k1+3*i:Nat):Int) by omega]
    repeat' (first
     |rw [ag ((L2.length:Int)+1) (by omega) (by omega),show(L2.length:Int)+1=((L2.length+1:Nat):Int) by omega]
     |rw [ij (k1+3*i) (L2.length+1),←hq]
     |refine RH.oc 60 eS ai.calm rfl (by kernel_rfl) rfl ?_
     |refine RH.oc 1 eS ai.calm rfl (by kernel_rfl) rfl ?_
     |refine RH.two rfl (by kernel_rfl) rfl rfl ?_ ?_
     |refine RH.one rfl (by kernel_rfl) rfl ?_
     |(refine RL.cM (lV S e x2 (by rw [←eD2];omega)) ?_;clear hS;rintro v7 m _ ⟨S9,S5',rfl⟩ hS;simp only [zC,zN]at hS;rw [py,←eD2,←eq2,←Xa]at hS;obtain ⟨A7,c7,rfl,_,_,_⟩:=Sl.gY iC fZ (hS.aW (show bf S9 v7 L2∈_ from(by with_reducible repeat(first|exact zS ..|apply zO)))) (by decide);refine ⟨_,rfl,?_⟩;refine RL.N1 (RH.aD hS (by repeat(first|exact an.nil|refine an.cons (by with_reducible repeat(first|exact zS ..|apply zO)) ?_)) ?_))
     |(refine RL.cM (II S5' e x2 l2.length mH.i.s (by omega) mH.i.i 99 (by decide) ⟨1,q,0,t,.zero,[]⟩ hed (.slice none 0 0) [] (by decide)) ?_;clear hS;rintro _ m _ ⟨ev,vo',vt',os,ts,S6,rfl,Y5,X2,rfl⟩ hS;simp only [zC,zN]at hS;obtain ⟨Ax,cx,rfl,_,_,_⟩:=Sl.gY oC bP (hS.bE (show dO vo' os∈_ from(by with_reducible repeat(first|exact zS ..|apply zO)))) (by decide);obtain ⟨Ay,cy,rfl,_,_,_⟩:=Sl.gY tC xn (hS.bE (show gh vt' ts∈_ from(by with_reducible repeat(first|exact zS ..|apply zO)))) (by decide);refine ⟨_,rfl,?_⟩;refine RL.N1 (RH.aD hS (by repeat(first|exact an.nil|refine an.cons (by with_reducible repeat(first|exact zS ..|apply zO)) ?_)) ?_))
     |(refine RL.aU aa rfl hS rfl rfl ?_;clear hS;intro b21 m hS;refine ⟨_,rfl,?_⟩;refine RL.N1 (RH.aD hS (by repeat(first|exact an.nil|refine an.cons (by with_reducible repeat(first|exact zS ..|apply zO)) ?_)) ?_))
     |(refine RL.er aa hS rfl rfl rfl rfl rfl (by rfl) (by rfl) (by with_reducible repeat(first|exact kq.head|apply kq.tail)) (by rfl) ?_;clear hS;intro m hS;refine RL.N1 (RH.aD hS (by repeat(first|exact an.nil|refine an.cons (by with_reducible repeat(first|exact zS ..|apply zO)) ?_)) ?_)))
    all_goals (refine RH.stop (by rfl) (QN.calm ?_))
    all_goals (refine QN.ar (b21,ev,.slice Ax os.length cx,.slice Ay ts.length cy,os,ts,S6) (by repeat(first|exact Sub.nil|refine Sub.C1 rfl ?_)) ⟨Y5,?_⟩)
    all_goals dsimp only
    all_goals exact (hS.aH (Pre:=ab b21 58 [.slice Ax os.length cx,.slice Ay ts.length cy]::dO (.slice Ax os.length cx) os::gh (.slice Ay ts.length cy) ts::cN S6 e x2::bW 1 (.slice (some ad) tx.length c9) (tx.flatMap sC)::ab b18 32 (aC g2)::ab b16 32 (aC g1)::aw::bC d y2 []) (by repeat(first|with_reducible exact bk.nil|apply bk.ro (by repeat(first|exact zS ..|with_reducible apply zO)) (by rfl)|apply bk.own (by repeat(first|exact sY.head|with_reducible apply sY.tail))))).drop
   ·clear hS;rintro ⟨b21,ev,vo,vt,os,ts,S6⟩ m ⟨Y5,hS⟩;dsimp only at Y5 hS ⊢;obtain ⟨Ax,cx,rfl,_,_,_⟩:=Sl.gY oC bP (hS.bE (show dO vo os∈_ from(by with_reducible repeat(first|exact zS ..|apply zO)))) (by decide);obtain ⟨Ay,cy,rfl,_,_,_⟩:=Sl.gY tC xn (hS.bE (show gh vt ts∈_ from(by with_reducible repeat(first|exact zS ..|apply zO)))) (by decide);refine ah ?_;have hw:IntKind.i64.wrap ((i:Int)+1)=((i+1:Nat):Int):=by rw [ag _ (by omega) (by omega)];simp
    have skip:∀{m:World},Tr m0 M0 X m (ab b21 58 [.slice Ax os.length cx,.slice Ay ts.length cy]::dO (.slice Ax os.length cx) os::gh (.slice Ay ts.length cy) ts::cN S6 e x2::bW 1 (.slice (some ad) tx.length c9) (tx.flatMap sC)::ab b18 32 (aC g2)::ab b16 32 (aC g1)::aw::bC d y2 [])→Tr m0 M0 X m (cN S6 e x2::bW 1 (.slice (some ad) tx.length c9) (tx.flatMap sC)::ab b18 32 (aC g2)::ab b16 32 (aC g1)::aw::bC d y2 []):=fun h=>h.tail.tail.tail
    by_cases PX:ev=0
    ·subst PX;have hm:=Y5 rfl;have hu:=upd_of mH (by decide) hm;refine ah ?_;refine RL.kh aa sC xe (hS.bE (show bW 1 (.slice (some ad) tx.length c9) (tx.flatMap sC)∈_ from(by with_reducible repeat(first|exact zS ..|apply zO)))) ht 0 rfl rfl rfl (by rfl) rfl rfl rfl ?_;refine ah ?_;rw [show((str t).size:Int)=(t.length:Int) by simp [bV]];rcases Nat.lt_or_ge 100 t.length with hlo|hlo
     ·rw [decide_eq_true (show(t.length:Int)>100 by omega)];refine ah ?_;rw [hw];exact QN.round (i+1,l2,y2,S6,x2) (by repeat(first|exact Sub.nil|refine Sub.C1 rfl ?_)) ⟨⟨aM,Rl,mH,by dsimp only;omega,Bn⟩,skip hS⟩ (by dsimp only;omega)
     ·rw [decide_eq_false (show¬(t.length:Int)>100 by omega)];refine ah ?_;refine RL.cM (o5 S6 e x2 l2.length mH.i.s (by omega) mH.i.w (.slice Ax os.length cx) (.slice Ay ts.length cy) os ts hu.ol (mH.i.fresh (x':=x2) hu).1 hu.tl (fun T' hT=>mH.i.may hu.cv hT)) ?_;clear hS;rintro _ m _ ⟨rfl,S7,x3,ZI,_,rfl⟩ hS;simp only [zC,zN]at hS;refine ⟨_,rfl,?_⟩;refine ah ?_;obtain ⟨a1,a2⟩:=Rl.may hu;refine RL.cM (w7 d y2 l2.length Rl.i (by omega) (.slice Ax os.length cx) (.slice Ay ts.length cy) os ts hu.ol hu.tl a1 a2) ?_;clear hS;rintro _ m _ ⟨⟨_,rfl⟩,y3,Wk,GH,rfl⟩ hS;simp only [bC,zC,zN]at hS;have hS:=(hS.aH (Pre:=cN S7 e x3::bW 1 (.slice (some ad) tx.length c9) (tx.flatMap sC)::ab b18 32 (aC g2)::ab b16 32 (aC g1)::aw::bC d {y3 with S5:=y3.S5} []) (by repeat(first|with_reducible exact bk.nil|apply bk.ro (by repeat(first|exact zS ..|with_reducible apply zO)) (by rfl)|apply bk.own (by repeat(first|exact sY.head|with_reducible apply sY.tail))))).drop;have hy3:=Rl.snoc hu Wk GH;have XO:=mH.snoc hu ZI;have hsub3:(jI y.q.toUs.ax).Sublist (jI y3.q.toUs.ax):=Bn.trans (by rw [Wk.q];exact qU_sub Rl.i.q os);have hu3:=GH.us;have hD3:y3.D.length<1000000000:=by
       have h1:=eM (hid y3.T);have h2:=iq y3.T;have h3:=GH.tl;rw [GH.D];omega
      obtain ⟨p1,p2,z1,z2,z3⟩:=law_order VT GH.q y.D y3.D hsub3 k1 k2 after hk (by rw [←BJ];exact sL);rw [←BJ,←X7]at z1;rw [←BJ,←Z5]at z2;have fit:∀S5,(({y3 with S5:=S5}:Dx)).q.us.length≤1000000:=fun S5=>by show y3.q.us.length≤_;omega
      refine ⟨_,rfl,?_⟩;refine ah ?_;refine RL.cM (um d {y3 with S5:=y3.S5} g1 GH.q (fit _) GH.tr hD3) ?_;clear hS;rintro _ m _ ⟨rfl,S5',rfl⟩ hS;simp only [bC,zC,zN]at hS;rw [show gX y3.D y3.q.ax g1=((p1:Int),true) from z1];have hS:=(hS.aH (Pre:=cN S7 e x3::bW 1 (.slice (some ad) tx.length c9) (tx.flatMap sC)::ab b18 32 (aC g2)::ab b16 32 (aC g1)::aw::bC d {y3 with S5:=S5'} []) (by repeat(first|with_reducible exact bk.nil|apply bk.ro (by repeat(first|exact zS ..|with_reducible apply zO)) (by rfl)|apply bk.own (by repeat(first|exact sY.head|with_reducible apply sY.tail))))).drop;refine ⟨_,rfl,?_⟩;refine ah ?_;refine RL.cM (um d {y3 with S5:=S5'} g2 GH.q (fit _) GH.tr hD3) ?_;clear hS;rintro _ m _ ⟨rfl,S5',rfl⟩ hS;simp only [bC,zC,zN]at hS;rw [show gX y3.D y3.q.ax g2=((p2:Int),true) from z2];have hS:=(hS.aH (Pre:=cN S7 e x3::bW 1 (.slice (some ad) tx.length c9) (tx.flatMap sC)::ab b18 32 (aC g2)::ab b16 32 (aC g1)::aw::bC d {y3 with S5:=S5'} []) (by repeat(first|with_reducible exact bk.nil|apply bk.ro (by repeat(first|exact zS ..|with_reducible apply zO)) (by rfl)|apply bk.own (by repeat(first|exact sY.head|with_reducible apply sY.tail))))).drop;refine ⟨_,rfl,?_⟩;refine ah ?_;rw [decide_eq_false (show¬(p1:Int)>(p2:Int) by omega)];refine ah ?_;rw [hw];exact QN.round (i+1,l2++[⟨os,ts⟩],{y3 with S5:=S5'},S7,x3) (by repeat(first|exact Sub.nil|refine Sub.C1 rfl ?_)) ⟨⟨aM,⟨hy3.i.s5 _,hy3.k,hy3.q,hy3.t,hy3.cv⟩,XO,by dsimp only;rw [List.length_append,List.length_singleton];omega,hsub3⟩,hS⟩ (by dsimp only;omega)
    ·rw [show(ev !=0)=true from bne_iff_ne.2 PX];refine ah ?_;rw [hw];exact QN.round (i+1,l2,y2,S6,x2) (by repeat(first|exact Sub.nil|refine Sub.C1 rfl ?_)) ⟨⟨aM,Rl,mH,by dsimp only;omega,Bn⟩,skip hS⟩ (by dsimp only;omega)
  ·rw [decide_eq_false (show¬(i:Int)<(tx.length:Int) by omega)];refine ah ?_;exact QN.du (i,l2,y2,S,x2) (by repeat(first|exact Sub.nil|refine Sub.C1 rfl ?_)) hS
 ·clear hS;rintro ⟨i,l2,y2,S,x2⟩ m hS;dsimp only at hS ⊢;refine QN.bx ?_;refine ah ?_;exact QN.aj rfl rfl ⟨_,rfl,[],⟨rfl,rfl⟩,Tr.drop (H:=[]) hS⟩
end Go.Proofs.YtgpgladbdoimdaaGreatDoor
namespace Go.Ev
section
open Go.RowKit Go.WideShapes Go.ChangeShapes
variable{H:Type} {enc:TypeId×Value→H}
theorem witness_shapedU{C:Checked}{os:Os}{f:FuncId}{fn:Func}{S:OpenSpec}{k:(H:Type)→List (DataW H)→Bool}(hk:S.cond=some k){conds:List PathCond}{apart:Bool}{X:World→Array Value→Prop}(modest:Bool)(w0:World)(args:Array Value)(fuel:Nat)(hos:w0.os=os)
  (hsh:(w0.forCall (fun _ _=>0) ⟨#[],args,[]⟩).Shaped C.prog)
  (cP:Input.okWideB C.prog (w0.forCall (fun _ _=>0) ⟨#[],args,[]⟩) f ⟨#[],args,[]⟩=true)
  {x:List (DataW H)×List (DataW H)×List MemPlace}(Qf:DataW.whole enc C.prog (w0.forCall (fun _ _=>0) ⟨#[],args,[]⟩).memory fn.params.toList S.vars apart args.toList fuel=some x)
  (hconds:conds.all (PathCond.test C.prog ⟨fn.params.toList,x.1,S.bare.plain.varTypes C.prog,x.2.1⟩)=true)(sD:k H (x.1++x.2.1)=true)
  (cz:S.bare.sizedB enc C.prog fn apart (w0.forCall (fun _ _=>0) ⟨#[],args,[]⟩).memory args fuel=true)
  (hx:X (w0.forCall (fun _ _=>0) ⟨#[],args,[]⟩).memory args):
  ∃(w:World) (tape:Tape) (i:Input),w.os=os∧(w.forCall tape i).Shaped C.prog∧i.vars=[]∧Input.okWide C.prog (w.forCall tape i) .any w.heap.size f i∧
   ((S.pre enc C.prog fn conds apart (w.forCall tape i).memory i.args∧X (w.forCall tape i).memory i.args)∧sizedMet enc C.prog fn S apart (w.forCall tape i).memory i.args)∧({modest:=modest}:Assume).holds C.prog (lone (Frame.enter C.prog f i.args .normal) [] (w.forCall tape i)):=
 ⟨w0,fun _ _=>0,⟨#[],args,[]⟩,hos,hsh,(Input.okWide_of_okWideB (base:=0) cP).1,(Input.okWide_of_okWideB cP).2,⟨⟨(OpenSpec.pre_some hk conds apart _ _).2 ⟨x.1,x.2.1,x.2.2,DataW.Whole_of_whole Qf,hconds,sD⟩,hx⟩,sizedMet_of_sizedB cz⟩,by
  simp only [Assume.holds];exact ⟨by simp,by simp,fun _=>Modest.zero,by simp,by simp⟩⟩
theorem open_slQ{α:Type}{P:Program}{Q:DataW H→Prop}{W:World}{sp:Nat→Bool}{hd:Bool}{base fuel sz:Nat}{t e:TypeId}{cs:List Value}{x:DataW H×List MemPlace}(enc':α→List Value)(Good:α→Prop)
  (ht:P.underlying t=some (.slice e))(hC:P.cellsOf e=sz)(pM:∀el rest d,x.1=.slice el rest→d∈el→Q d)(ZW:∀(cs:List Value) (n:Nat) (y:DataW H×List MemPlace),cs.length=sz→DataW.trod enc P W base sp hd n e cs=some y→Q y.1→∃a,cs=enc' a∧Good a)
  (h:DataW.trod enc P W base sp hd fuel t cs=some x):∃(v:Value) (l:List α),cs=[v]∧Sl W [] sz v (l.flatMap enc')∧∀a∈l,Good a:=by
 rcases DataW.trod_slice ht h with⟨rfl,_⟩|⟨a,len,cap,elems,rest,n,_,rfl,rfl,_,hl,hm,hlen,hi,_⟩
 ·exact ⟨_,[],rfl,Sl.nil _ _ _,by simp⟩
 ·refine ⟨.slice (some a) len cap,?_⟩;have key:∀k,k≤len→∃l:List α,(l.flatMap enc').length=k*sz∧(∀j u,(l.flatMap enc')[j]?=some u→W.cell? (a.add j)=some u)∧∀b∈l,Good b:=by
   intro k
   induction k with
   |zero=>intro _;exact ⟨[],by simp,by simp,by simp⟩
   |succ k ih=>
    intro hk;obtain ⟨l,h1,h2,h3⟩:=ih (by omega);have TU:=hi k (by omega);rw [hC,List.getElem?_eq_getElem (by omega)]at TU;obtain ⟨cs',CV,jT⟩:=Option.bind_eq_some_iff.1 TU;obtain ⟨_,jW,pg⟩:=World.cells?_some CV;obtain ⟨b,rfl,hb⟩:=ZW cs' n _ jW jT (pM _ _ _ rfl (List.mem_map.2 ⟨elems[k]'(by omega),List.getElem_mem _,rfl⟩))
    refine ⟨l++[b],?_,?_,?_⟩
    ·simp [h1,jW,Nat.add_mul]
    ·intro j u hu;simp only [List.flatMap_append,List.flatMap_cons,List.flatMap_nil,List.append_nil]at hu
     by_cases hj:j<k*sz
     ·rw [List.getElem?_append_left (by omega)]at hu;exact h2 j u hu
     ·rw [List.getElem?_append_right (by omega),h1]at hu;have Z1:j-k*sz<sz:=by have h9:=(List.getElem?_eq_some_iff.1 hu).1;omega
      have:=pg (j-k*sz) Z1;rw [add_add,show k*sz+(j-k*sz)=j by omega]at this;exact this.trans hu
    ·intro c hc;rcases List.mem_append.1 hc with hc|hc
     ·exact h3 c hc
     ·have:c=b:=by simpa using hc
      subst this;exact hb
  obtain ⟨l,h1,h2,h3⟩:=key len (Nat.le_refl _);exact ⟨l,rfl,⟨some a,len,cap,rfl,hl,hm,h1,(fun hh=>by cases hh),fun _=>⟨a,rfl,by simp,h2⟩⟩,h3⟩
theorem law_liftU{a:Assume}{C:Checked}{os:Os}{f:FuncId}{fn:Func}{s:ChangeSpec}{S:OpenSpec}{k:(H:Type)→List (DataW H)→Bool}(hk:S.cond=some k)(Vn:S.vars=s.vars){conds:List PathCond}{apart fresh handsOn again:Bool}{tb:TypeId}{X:World→Array Value→Prop}
  (hX:∀(w w':World) (args:Array Value),w.heap=w'.heap→X w args→X w' args)
  (own:ownKnob C.prog.godebug=none)(started:os.Started)(noInit:C.prog.inits.idxOf? f=none)(VK:C.prog.funcs[f]?=some fn)
  (witness:∃(w:World) (tape:Tape) (i:Input),w.os=os∧(w.forCall tape i).Shaped C.prog∧i.vars=[]∧Input.okWide C.prog (w.forCall tape i) .any w.heap.size f i∧
   ((S.pre enc C.prog fn conds apart (w.forCall tape i).memory i.args∧X (w.forCall tape i).memory i.args)∧sizedMet enc C.prog fn S apart (w.forCall tape i).memory i.args)∧a.holds C.prog (lone (Frame.enter C.prog f i.args .normal) [] (w.forCall tape i)))
  (hl:laidOutB C.prog=true)(QG:fn.params.toList.all (fun t=>C.prog.readableRec t&&decide (t<C.prog.types.size))=true)
  (hr:fn.resultTypes=#[tb])(XQ:C.prog.underlying tb=some .bool)(hv:s.vars=[])(Ue:S.bare.plain.varTypes C.prog=[])
  (Sg:∀ds:List (DataW H),ds.length=fn.params.toList.length→(s.fn H ds).results=[.lit (.bool true)]∧(s.fn H ds).args=ds∧(s.fn H ds).vars=[])
  (hc:∀(W:World) (base:Nat) (args:Array Value) (ds:List (DataW H)) (p:List MemPlace),(∀(j:Nat) t v,fn.params[j]?=some t→args[j]?=some v→Value.okWide C.prog W .any base t v)→
   DataW.TrodAll enc C.prog W 0 (fun _=>true) true fn.params.toList args.toList ds p→(DataW.weightsEach C.prog fn.params.toList ds).all (·≤reachBytes)=true→X W args→k H ds=true→
   dg C.prog f args.toList (World.lS W) fun r m'=>r=.bool true∧Ext (World.lS W) [] m'):
  ReturnsInHanded a C os f .any (fun w args=>(S.pre enc C.prog fn conds apart w args∧X w args)∧sizedMet enc C.prog fn S apart w args) (s.post enc C.prog fn apart fresh handsOn again):=by
 refine returnsInHanded_of_calls own started noInit witness ?_;intro w0 tape i _ _ _ cP Oe _;obtain ⟨_,_,_,fn',hfn',_,_,_,_,BF⟩:=cP;have e:fn'=fn:=Option.some.inj (hfn'.symm.trans VK);subst e;obtain ⟨⟨hp,hx⟩,hz⟩:=Oe;obtain ⟨ds,gs,before,WU,_,sD⟩:=(OpenSpec.pre_some hk conds apart _ _).1 hp;have hw:=hz.weights WU;have hx:=hX _ _ _ (show(w0.forCall tape i).memory.heap=(w0.forCall tape i).heap from rfl) hx;have hW:=DataW.Whole.of_heap (w':=w0.forCall tape i) (by rfl) WU;generalize w0.forCall tape i=W at BF hx hW;generalize i.args=args at BF hx hW;rw [Vn]at hW;have U9:=hW;obtain ⟨p,q,hA,hV,rfl,hfz,qv⟩:=hW;rw [hv]at hV;obtain ⟨rfl,rfl⟩:=trodVars_none hV;rw [Ue,List.append_nil,List.append_nil]at hw;rw [List.append_nil]at sD;have hlen:ds.length=fn'.params.toList.length:=pC hA;obtain ⟨h1,h2,h3⟩:=Sg ds hlen;have hF:=hc W _ args ds p BF hA hw hx sD;refine (hF.2 W (bS.lS W)).mono fun e W' ⟨m',hs,v,he,Ue,hE⟩=>?_
 subst Ue;subst he;refine ChangeSpec.post_blind ?_;have hb:Below W.heap.size W W':=⟨hs.os.trans hE.os,hs.tape.trans hE.tape,hs.output.trans hE.output,by rw [hs.heap];exact hE.size,fun k hk=>by rw [hs.heap];exact hE.ej k hk (by simp)⟩;rw [List.append_nil]at U9;have aM:∀x∈p,x.block<W.heap.size:=fun x hx=>U9.lt x hx
 refine rz (pa:=p) (pv:=[]) U9 (fun b sp hd=>?_) (fun sp ze=>?_) (fun sp _=>?_) (by simp) hb (ok_one hr rfl (okWide_bool_mk XQ true))
 ·rw [List.append_nil,h1,hr];exact trodAll_mk1 (shut_bool XQ true)
 ·rw [List.append_nil,h2];exact l8 hl hb QG hA aM ze
 ·rw [List.append_nil,h3,hv];rfl
end
end Go.Ev
