/- What is needed beyond the texts below. -/
import Derived.Test.YtgpgladbdoimdaaGreatDoorMLawMV50
namespace Go.Proofs.YtgpgladbdoimdaaGreatDoor.Us
section
open Go.Ids Go.SeqP
variable{q:Us} {x:Un}
theorem Ok.lt_pl(h:q.Ok)(hm:q.may x=true){l:Nat}(hl:q.idx x.l=some l):q.place l<q.pl x:=by
 obtain ⟨pY,_⟩:=ba hl;cases gF:q.bA x with
 |none=>simp only [Us.pl,gF,hl];omega
 |some r=>
  have sj:q.idx x.r=some r:=by
   unfold Us.bA at gF
   split at gF
   ·cases gF
   ·rename_i r' h1;rw [hl]at gF;simp only at gF
    split at gF
    ·cases gF;exact h1
    ·cases gF
  have px:l∈(Fo.path [] q.F r).tail:=by
   unfold Us.bA at gF;simp only [sj,hl]at gF
   split at gF
   ·assumption
   ·cases gF
  obtain ⟨iD,_⟩:=ba sj;simp only [Us.may,Bool.and_eq_true,Bool.or_eq_true,decide_eq_true_eq]at hm;have hlr:q.place l<q.place r:=by
   have n5:x.l≠⟨0,0⟩:=fun hh=>by rw [hh,h.nb]at hl;cases hl
   have AZ:x.r≠⟨0,0⟩:=fun hh=>by rw [hh,h.nb]at sj;cases sj
   rcases hm.2 with(hf|hf)|hf
   ·exact absurd hf n5
   ·exact absurd hf AZ
   ·simp only [Us.find,hl,sj]at hf;omega
  obtain ⟨p,s,a,b,hA⟩:=Fo.At.dV none false ((h.mem l).2 pY);obtain ⟨p',s',a',b',hB⟩:=Fo.At.dV none false ((h.mem r).2 iD);have FK:=At.db hB h.nd;obtain ⟨u,v,e,_⟩:=hA.split h.nd;obtain ⟨u',v',e',_⟩:=hB.split h.nd;have p1:q.place l=u.length+a.sz:=h.nI (by
   rw [e,List.getElem?_append_right (by omega),List.getElem?_append_right (by simp [Fo.sz])];simp [Fo.sz])
  have p2:q.place r=u'.length+a'.sz:=h.nI (by
   rw [e',List.getElem?_append_right (by omega),List.getElem?_append_right (by simp [Fo.sz])];simp [Fo.sz])
  have N0:=Fo.kY (q.kL a'.roots x.id) a';have A0:q.pl x=q.place r-(a'.sz-Fo.pre (q.kL a'.roots x.id) a'):=by simp only [Us.pl,gF,FK]
  rcases Nat.eq_zero_or_pos a'.sz with hz|hz
  ·omega
  ·have hf:∃y,a'.flat[0]?=some y:=⟨_,List.getElem?_eq_getElem hz⟩;obtain ⟨y,hy⟩:=hf;have hpy:q.place y=u'.length:=h.nI (by
    rw [e',List.getElem?_append_right (by omega),Nat.sub_self,List.getElem?_append_left hz];exact hy)
   have hya:=List.mem_of_getElem? hy;have hyF:=hB.mem.2.1 y hya;have Be:=(h.mem y).1 hyF;have hyp:=(hB.gO (up:=[]) h.nd (by simp) hyF).2 (.inr (.inl hya));have UW:l=r∨r∈a.flat∨r∈b.flat:=(hA.gO (up:=[]) h.nd (by simp) ((h.mem r).2 iD)).1 (List.mem_of_mem_tail px);have nda:=At.SL hA h.nd;have mN:∀z,z∈a.flat→q.place z<q.place l:=fun z hz=>by
    obtain ⟨i,hi,ei⟩:=List.getElem_of_mem hz;have:q.place z=u.length+i:=h.nI (by
     rw [e,List.getElem?_append_right (by omega),Nat.add_sub_cancel_left,List.getElem?_append_left hi,List.getElem?_eq_getElem hi,ei])
    rw [this,p1,Fo.sz];omega
   have hib:∀z,z∈b.flat→q.place l<q.place z:=fun z hz=>by
    obtain ⟨i,hi,ei⟩:=List.getElem_of_mem hz;have:q.place z=u.length+(a.flat.length+(i+1)):=h.nI (by
     rw [e,List.getElem?_append_right (by omega),Nat.add_sub_cancel_left,List.getElem?_append_right (by omega),Nat.add_sub_cancel_left,List.getElem?_cons_succ,List.getElem?_append_left hi,List.getElem?_eq_getElem hi,ei])
    rw [this,p1,Fo.sz];omega
   have UW:r∈b.flat:=by
    rcases UW with rfl|UW|UW
    ·omega
    ·have:=mN r UW;omega
    ·exact UW
   obtain ⟨q2,s2,a2,b2,hC⟩:=Fo.At.dV (f:=b) (some l) false UW;have hC':=At.below hA (.inr hC);obtain ⟨_,_,rfl,_⟩:=hB.uniq hC' h.nd;have:=hib y (hC.mem.2.1 y hya);omega
end
end Go.Proofs.YtgpgladbdoimdaaGreatDoor.Us
namespace Go.Proofs.YtgpgladbdoimdaaGreatDoor
open Go.ChangeShapes Go.WideShapes Go.ChangeAt Go.RowKit Go.Ev Go.Ids Go.SeqP
set_option maxRecDepth 20000
set_option maxHeartbeats 1000000
theorem find_rowU{q:Us}(cP:q.Ok)(id:aL):(ka q.ax).find id=q.find id:=by
 have hk:=cP.yk;cases hi:q.idx id with
 |none=>
  have h1:(ka q.ax).idx id=none:=Us.eP.2 fun hh=>by
   obtain ⟨u,hu,e⟩:=List.mem_map.1 hh;obtain ⟨i,hG,rfl⟩:=List.mem_map.1 (show u∈q.F.flat.map q.u from hu);exact Us.eP.1 hi (List.mem_map.2 ⟨_,Us.DO ((cP.mem i).1 hG),e⟩)
  rw [Us.find,Us.find,h1,hi]
 |some i=>
  obtain ⟨h1,h2⟩:=Us.ba hi;have hp:=cP.cF h1;have A0:q.place i<(ka q.ax).us.length:=by show _<q.ax.length;rw [cP.sT];exact cP.lk h1
  have hu:(ka q.ax).u (q.place i)=q.u i:=by
   show q.ax.getD _ _=_;rw [List.getD_eq_getElem?_getD,Us.ax,List.getElem?_map,hp];rfl
  have h3:=hk.kB A0;rw [hu,h2]at h3;have h4:=hk.cF A0;have h5:(ka q.ax).place (q.place i)=q.place i:=by
   have h6:(List.range' 0 q.ax.length)[(ka q.ax).place (q.place i)]?=some (q.place i):=by rw [←fz];exact h4
   obtain ⟨h7,h8⟩:=List.getElem?_eq_some_iff.1 h6;rw [List.getElem_range']at h8;omega
  rw [Us.find,Us.find,h3,hi];simp only [h5]
open Go.AncP
theorem sides_row{α:Type}[DecidableEq α]{p:α→Bool}{l l' A N B:List α}(hl:l=A++B)(vg:l'=A++(N++B))(hn:l'.Nodup){k:Nat}(hk:k≤(l.filter p).length)(hA:(A.filter p).length=k)(he:∀k' x,k=k'+1→(l.filter p)[k']?=some x→∃A0,A=A0++[x]):
  (∃i c g,mk (l.filter p) k true=some (i,c)∧P5 l' i c=some g∧Go.AncP.rH p l' g=k)∧∃i c g,mk (l.filter p) k false=some (i,c)∧P5 l' i c=some g∧Go.AncP.rH p l' g=k+(N.filter p).length:=by
 have hf:l.filter p=A.filter p++B.filter p:=by rw [hl,List.filter_append]
 have hlen:(l.filter p).length=k+(B.filter p).length:=by rw [hf,List.length_append,hA]
 have hcA:Go.AncP.rH p l' A.length=k:=by rw [Go.AncP.rH,vg,List.take_left' rfl,hA]
 constructor
 ·unfold mk;rw [if_neg (by omega),if_pos rfl]
  match k with
  |0=>exact ⟨none,false,0,rfl,rfl,by simp [Go.AncP.rH]⟩
  |k'+1=>
   have hx:=List.getElem?_eq_getElem (show k'<(l.filter p).length by omega);generalize (l.filter p)[k']=x at hx;obtain ⟨A0,rfl⟩:=he k' x rfl hx;refine ⟨some x,true,A0.length+1,by show some ((l.filter p)[k']?,true)=_;rw [hx],?_,by rw [←hcA];simp⟩;have hm:x∈l':=by rw [vg];simp
   have Qf:x∉A0:=fun hh=>by
    rw [vg]at hn;have:=(List.nodup_append.1 (List.nodup_append.1 hn).1).2.2 x hh x (List.mem_singleton.2 rfl);exact this rfl
   simp only [P5,if_pos hm,Option.some.injEq];rw [vg,List.append_assoc,List.idxOf_append,if_neg Qf];simp
 ·unfold mk;rw [if_neg (by omega)]
  by_cases h:k<(l.filter p).length
  ·have hx:=List.getElem?_eq_getElem h;generalize (l.filter p)[k]=x at hx;refine ⟨some x,false,l'.idxOf x,by simp only [Bool.false_eq_true,if_false,if_pos h,hx],?_,?_⟩
   ·have hm:x∈l':=by
     have:=(List.mem_filter.1 (List.mem_of_getElem? hx)).1;rw [hl,List.mem_append]at this;rw [vg];simp only [List.mem_append];rcases this with h1|h1
     ·exact .inl h1
     ·exact .inr (.inr h1)
    simp [P5,hm]
   ·have h2:(l'.filter p)[k+(N.filter p).length]?=some x:=by
     rw [hf,List.getElem?_append_right (by omega)]at hx;rw [vg,List.filter_append,List.filter_append,List.getElem?_append_right (by omega),List.getElem?_append_right (by omega)];rw [←hx];congr 1;omega
    exact (DN hn h2).1
  ·refine ⟨none,true,l'.length,by simp only [Bool.false_eq_true,if_false,if_neg h],rfl,?_⟩;rw [Go.AncP.rH,List.take_length,vg,List.filter_append,List.filter_append,List.length_append,List.length_append,hA];omega
theorem idx_mem{q:Us}(hq:q.Ok){id:aL}(h:id∈jI q.ax):∃i,q.idx id=some i∧q.place i=(jI q.ax).idxOf id∧q.find id=((jI q.ax).idxOf id:Nat):=by
 have h1:=find_rowU hq id;rw [Hq hq.yk,if_pos h]at h1;unfold Us.find at h1
 split at h1
 ·omega
 ·rename_i i hi;exact ⟨i,hi,by omega,by rw [Us.find,hi];simp only;omega⟩
theorem law_sides{q:Us}(hq:q.Ok)(D:List aG)(x:Un)(n:Nat)(k:Nat)(hk:k≤(lh D q).length)(h1:x.l=ub (lh D q) k)(h2:x.r=F8 q (lh D q) k):
  ∃z:Nat,(lh D (q.run x n)).length=(lh D q).length+z∧gX D (q.run x n).ax (dJ (lh D q) k true).1=((k:Int),true)∧gX D (q.run x n).ax (dJ (lh D q) k false).1=(((k+z:Nat):Int),true)∧(dJ (lh D q) k true).2=true∧(dJ (lh D q) k false).2=true:=by
 cases hr:q.runs x n with
 |false=>
  have e:q.run x n=q:=by rw [Us.run,if_neg (by simp [hr])]
  rw [e];exact ⟨0,rfl,(E1 hq D k true hk).2,(E1 hq D k false hk).2,(E1 hq D k true hk).1,(E1 hq D k false hk).1⟩
 |true=>
  have r:=Us.iM.1 hr;have hm:=r.may;have e:q.run x n=q.cG x n:=by rw [Us.run,if_pos hr]
  rw [e];obtain ⟨n',xw⟩:∃n',n=n'+1:=⟨n-1,by have:=r.pos;omega⟩;have pR:=Us.nH hq r n (Nat.le_refl _);have hu:=hq.BK r n' (by omega);rw [←xw]at hu;have BZ:=hq.sT;have kd:=hq.fe;have N0:q.pl x≤q.ax.length:=by
   obtain ⟨pa,sd,kk,up,g,_⟩:=hq.grown x;have:=g.le;rw [kd]at this;rw [BZ];exact this
  obtain ⟨ids,hids⟩:∃ids,ids=jI q.ax:=⟨_,rfl⟩;have qv:ids.Nodup:=hids▸hq.lz;have hnd':(jI (q.cG x n).ax).Nodup:=pR.lz;have iA:ids.length=q.ax.length:=by rw [hids,jI,List.length_map]
  have A0:(k=0→q.pl x=0)∧∀k' y,k=k'+1→(ids.filter (shown D))[k']?=some y→q.pl x=ids.idxOf y+1:=by
   constructor
   ·intro h0;subst h0;rcases Nat.eq_zero_or_pos q.ax.length with hz|hz
    ·omega
    ·have hg:=List.getElem?_eq_getElem hz;have hx:x.r=q.ax[0].id:=by rw [h2,F8,show IX q (lh D q) 0=0 from rfl,hg];rfl
     have Pl:x.r∈ids:=by rw [hx,hids,jI];exact List.mem_map_of_mem (List.getElem_mem hz)
     obtain ⟨i,h3,h4,_⟩:=idx_mem hq (hids▸Pl);have h5:=hq.RB hm h3;have h6:(jI q.ax).idxOf x.r=0:=by
      rw [hx];have:=qv.idxOf_getElem 0 (by omega);rw [←hids];rw [show q.ax[0].id=ids[0]'(by omega) by simp [hids,jI]]
      exact this
     omega
   ·intro k' y Zk hy;subst Zk;have hym:y∈ids:=(List.mem_filter.1 (List.mem_of_getElem? hy)).1;have qa:x.l=y:=by
     rw [h1,ub,if_pos (Nat.succ_pos _),Nat.add_sub_cancel,List.getD_eq_getElem?_getD,show lh D q=ids.filter (shown D) by rw [hids];rfl,hy];rfl
    obtain ⟨i,h3,h4,h5⟩:=idx_mem hq (hids▸hym);rw [←hids]at h4 h5;have h6:=hq.lt_pl hm (by rw [qa];exact h3);have hN:IX q (lh D q) (k'+1)=ids.idxOf y+1:=by
     rw [IX,if_pos (Nat.succ_pos _),←h1,qa,h5];omega
    rcases Nat.lt_or_ge (ids.idxOf y+1) q.ax.length with aM|fW
    ·have hx:x.r=(q.ax[ids.idxOf y+1]).id:=by rw [h2,F8,hN,List.getElem?_eq_getElem aM];rfl
     have Pl:x.r∈jI q.ax:=by rw [hx];exact List.mem_map_of_mem (List.getElem_mem _)
     obtain ⟨j,h7,h8,_⟩:=idx_mem hq Pl;have h9:=hq.RB hm h7;have Gd:(jI q.ax).idxOf x.r=ids.idxOf y+1:=by
      have:=qv.idxOf_getElem (ids.idxOf y+1) (by omega);rw [hx,←hids];rw [show(q.ax[ids.idxOf y+1]).id=ids[ids.idxOf y+1]'(by omega) by simp [hids,jI]]
      exact this
     omega
    ·omega
  have hA:ids=ids.take (q.pl x)++ids.drop (q.pl x):=(List.take_append_drop ..).symm;have vg:jI (q.cG x n).ax=ids.take (q.pl x)++(((List.range n).map (Us.nx x)).map (·.id)++ids.drop (q.pl x)):=by
   rw [hu,jI,List.map_append,List.map_append,List.map_take,List.map_drop,hids,xw];rfl
  have hcnt:((ids.take (q.pl x)).filter (shown D)).length=k:=by
   rcases Nat.eq_zero_or_pos k with h0|h0
   ·rw [A0.1 h0];simp [h0]
   ·obtain ⟨k',Zk⟩:∃k',k=k'+1:=⟨k-1,by omega⟩;obtain ⟨y,hy⟩:∃y,(ids.filter (shown D))[k']?=some y:=⟨_,List.getElem?_eq_getElem (by rw [hids];exact Nat.lt_of_lt_of_le (by omega) hk)⟩;rw [A0.2 k' y Zk hy,Zk];exact (DN qv hy).2
  have gE:x.id≠O0:=aL.mV r.right;have ib:k≤(ids.filter (shown D)).length:=by rw [hids];exact hk
  obtain ⟨⟨i,c,g,a1,a2,a3⟩,i2,c2,g2,b1,b2,b3⟩:=sides_row (p:=shown D) hA vg hnd' ib hcnt (fun k' y Zk hy=>by
   rw [A0.2 k' y Zk hy];have hym:y∈ids:=(List.mem_filter.1 (List.mem_of_getElem? hy)).1;have hl:=List.idxOf_lt_length_of_mem hym;refine ⟨ids.take (ids.idxOf y),?_⟩;rw [List.take_add_one,List.getElem?_eq_getElem hl,List.getElem_idxOf hl];rfl)
  have hs:lh D q=ids.filter (shown D):=by rw [hids];rfl
  refine ⟨((((List.range n).map (Us.nx x)).map (·.id)).filter (shown D)).length,?_,?_,?_,?_,?_⟩
  ·rw [lh,vg,hs,List.filter_append,List.filter_append,List.length_append,List.length_append]
   conv=>rhs;rw [hA,List.filter_append,List.length_append]
   omega
  ·rw [hs,Ks a1,IE pR.yk D (fun y hy=>?_) a2,a3];refine M1 hq y ?_;obtain ⟨i',c',g',e1,_,_,e4⟩:=Nr (p:=shown D) (b:=true) qv ib;rw [a1]at e1;cases e1;rw [←hids];exact e4 y hy
  ·rw [hs,Ks b1,IE pR.yk D (fun y hy=>?_) b2,b3];refine M1 hq y ?_;obtain ⟨i',c',g',e1,_,_,e4⟩:=Nr (p:=shown D) (b:=false) qv ib;rw [b1]at e1;cases e1;rw [←hids];exact e4 y hy
  ·rw [hs,Ks a1]
  ·rw [hs,Ks b1]
theorem upd_of{x:Rx}{l:List ia}{c:Nat}{e:Ed}{os:List a6}{ts:List aK}(hx:RD x l)(hc:1≤c)(hm:H6 x c e os ts):jN (nZ l) ⟨os,ts⟩:=by
 obtain ⟨k,rfl⟩:∃k,c=k+1:=⟨c-1,by omega⟩;exact (th (k:=k) (h:=l.length) (l:=l) (hx.i.sA fun c=>by
  unfold Kw
  split
  ·rfl
  ·rw [List.take_length]) hm).1
set_option maxHeartbeats 20000000
theorem sides_s(wi:Int)(v:Value)(ls:List Nat)(Oa:∀n∈ls,n<4294967296)(at_:Int)(t:List UInt8):bu Tryz.prog 7 [.int .i64 wi,v,.int .i64 at_,.string (str t)] [aw,bW 1 v (ls.flatMap u4)] (fun r H=>r=.bool true∧H=[]):=by
 intro m0 X hS;obtain ⟨M0,bR⟩:∃M0,M0=au [aw,bW 1 v (ls.flatMap u4)]:=⟨_,rfl⟩;rw [←bR]at hS ⊢;obtain ⟨A,c,rfl,_,_,_⟩:=Sl.gY u4 oJ (hS.bE (show bW 1 v (ls.flatMap u4)∈_ from(by with_reducible repeat(first|exact zS ..|apply zO)))) (by decide);refine aP.enter ⟨_,Tryz.func7,by kernel_rfl,by kernel_rfl⟩ Tryz.func7 rfl rfl ?_;refine ah ?_;refine RL.cM Hu ?_;clear hS;rintro _ m _ ⟨rfl,rfl⟩ hS;simp only [List.nil_append]at hS;refine ⟨_,rfl,?_⟩;refine ah ?_;rcases Nat.lt_or_ge 40 ls.length with aM|hle
 ·rw [decide_eq_true (show(ls.length:Int)>40 by omega)];refine ah ?_;exact QN.aj rfl rfl ⟨_,rfl,_,⟨rfl,rfl⟩,hS.drop (H:=[])⟩
 rw [decide_eq_false (show¬(ls.length:Int)>40 by omega)];refine ah ?_;rw [show((str t).size:Int)=(t.length:Int) by simp [bV]];rcases Nat.lt_or_ge 100 t.length with aM|px
 ·rw [decide_eq_true (show(t.length:Int)>100 by omega)];refine ah ?_;exact QN.aj rfl rfl ⟨_,rfl,_,⟨rfl,rfl⟩,hS.drop (H:=[])⟩
 rw [decide_eq_false (show¬(t.length:Int)>100 by omega)];refine ah ?_;refine RL.cM (L7 wi (.slice A ls.length c) ls (by omega) Oa) ?_;clear hS;rintro _ m _ ⟨d,e,y,S,x,l,rfl,hr,pY,hy,hx,rfl⟩ hS;obtain ⟨eD,eq_,P1,Ob,Fs⟩:=EJ hy hx;have VT:=hy.i.q;simp only [bC,zC,zN]at hS;have hS:=(hS.aH (Pre:=cN S e x::aw::bC d {y with S5:=y.S5} []) (by repeat(first|with_reducible exact bk.nil|apply bk.ro (by repeat(first|exact zS ..|with_reducible apply zO)) (by rfl)|apply bk.own (by repeat(first|exact sY.head|with_reducible apply sY.tail))))).drop;have hL:lh x.D x.q=lh y.D y.q.toUs:=by rw [eD,eq_]
 obtain ⟨L,BJ⟩:∃L,L=lh y.D y.q.toUs:=⟨_,rfl⟩;have Fg:L.length≤1000000:=by
  rw [BJ,lh];refine Nat.le_trans (List.length_filter_le _ _) ?_;rw [jI,List.length_map];have:y.q.toUs.ax.length=y.q.us.length:=VT.sT;omega
 refine ⟨_,rfl,?_⟩;refine ah ?_;refine RL.cM (lV S e x (by rw [←eD];omega)) ?_;clear hS;rintro v2 m _ ⟨S3,S4,rfl⟩ hS;simp only [zC,zN]at hS;rw [py,hL,←BJ]at hS;obtain ⟨A2,c2,rfl,_⟩:=Ev.Own.shape (show Ev.Own m S3 30 2 v2 L.length (L.flatMap iC) from hS.head);have hS:=(hS.aH (Pre:=aw::bC d {y with S5:=y.S5} [cN S4 e x]) (by repeat(first|with_reducible exact bk.nil|apply bk.ro (by repeat(first|exact zS ..|with_reducible apply zO)) (by rfl)|apply bk.own (by repeat(first|exact sY.head|with_reducible apply sY.tail))))).drop;refine ⟨_,rfl,?_⟩;refine aZ ?_;rw [ag ((L.length:Int)+1) (by omega) (by omega),show(L.length:Int)+1=((L.length+1:Nat):Int) by omega];refine aZ ?_;refine RL.cU (AJ at_ L.length (by omega)) (fun m hS=>?_) (hs:=.nil);obtain ⟨n,hn,If⟩:∃n:Nat,at_%((L.length+1:Nat):Int)=(n:Int)∧n≤L.length:=by
  have h1:=Int.emod_nonneg at_ (show((L.length+1:Nat):Int)≠0 by omega);have h2:=Int.emod_lt_of_pos at_ (show(0:Int)<((L.length+1:Nat):Int) by omega);exact ⟨(at_%((L.length+1:Nat):Int)).toNat,by omega,by omega⟩
 rw [hn];refine ah ?_;refine RL.cM (rY d {y with S5:=y.S5} P1 (by show y.D.length≤_;omega) n true) ?_;clear hS;rintro _ m _ ⟨rfl,S5,rfl⟩ hS;simp only [bC,zC,zN]at hS;have hS:=(hS.aH (Pre:=aw::bC d {y with S5:=S5} [cN S4 e x]) (by repeat(first|with_reducible exact bk.nil|apply bk.ro (by repeat(first|exact zS ..|with_reducible apply zO)) (by rfl)|apply bk.own (by repeat(first|exact sY.head|with_reducible apply sY.tail))))).drop;rw [show(im y.D y.q.ax).map (·.2.id)=L by rw [BJ];exact qR y.D y.q.toUs];have w1:(dJ L n true).2=true:=by rw [BJ];exact (E1 VT y.D n true (by rw [←BJ];exact If)).1
 have w2:(dJ L n false).2=true:=by rw [BJ];exact (E1 VT y.D n false (by rw [←BJ];exact If)).1
 rw [w1];obtain ⟨g1,X7⟩:∃g:sF,g=(dJ L n true).1:=⟨_,rfl⟩;rw [←X7];refine ⟨_,rfl,?_⟩;refine ah ?_
 (try clear hS);intro b11 m hS;refine ⟨_,rfl,?_⟩;refine ah ?_
 (try clear hS);intro m hS;refine ah ?_
 refine RL.cM (rY d {y with S5:=S5} P1 (by show y.D.length≤_;omega) n false) ?_;clear hS;rintro _ m _ ⟨rfl,S5,rfl⟩ hS;simp only [bC,zC,zN]at hS;have hS:=(hS.aH (Pre:=ab b11 32 (aC g1)::aw::bC d {y with S5:=S5} [cN S4 e x]) (by repeat(first|with_reducible exact bk.nil|apply bk.ro (by repeat(first|exact zS ..|with_reducible apply zO)) (by rfl)|apply bk.own (by repeat(first|exact sY.head|with_reducible apply sY.tail))))).drop;rw [show(im y.D y.q.ax).map (·.2.id)=L by rw [BJ];exact qR y.D y.q.toUs,w2];obtain ⟨g2,Z5⟩:∃g:sF,g=(dJ L n false).1:=⟨_,rfl⟩;rw [←Z5];refine ⟨_,rfl,?_⟩;refine ah ?_
 (try clear hS);intro b13 m hS;refine ⟨_,rfl,?_⟩;refine ah ?_
 (try clear hS);intro m hS;refine ah ?_
 have hS:=hS.gV 1 (by decide);have hS:Tr m0 M0 X _ (bW 1 (.slice none 0 0) (([]:List (List UInt8)).flatMap sC)::ab b13 32 (aC g2)::ab b11 32 (aC g1)::aw::bC d {y with S5:=S5} [cN S4 e x]):=hS;have hed:EZ ⟨1,n,0,t,.zero,[]⟩:=⟨⟨by dsimp only;omega,by dsimp only;omega⟩,by dsimp only;omega,by dsimp only;omega,by dsimp only;omega,.inl ⟨rfl,rfl,rfl,rfl⟩,fun h=>by rcases h with h|h<;>cases h⟩;refine RL.cM (II S4 e x l.length hx.i.s (by omega) hx.i.i 99 (by decide) ⟨1,n,0,t,.zero,[]⟩ hed (.slice none 0 0) [] (by decide)) ?_;clear hS;rintro _ m _ ⟨ev,vo,vt,os,ts,S6,rfl,Y5,X2,rfl⟩ hS;simp only [zC,zN]at hS;obtain ⟨Ax,cx,rfl,_,_,_⟩:=Sl.gY oC bP (hS.bE (show dO vo os∈_ from(by with_reducible repeat(first|exact zS ..|apply zO)))) (by decide);obtain ⟨Ay,cy,rfl,_,_,_⟩:=Sl.gY tC xn (hS.bE (show gh vt ts∈_ from(by with_reducible repeat(first|exact zS ..|apply zO)))) (by decide);refine ⟨_,rfl,?_⟩;refine ah ?_
 (try clear hS);intro b15 m hS;refine ⟨_,rfl,?_⟩;refine ah ?_
 (try clear hS);intro m hS;refine ah ?_
 by_cases PX:ev=0
 ·subst PX;obtain hm:=Y5 rfl;have hu:=upd_of hx (by decide) hm;obtain ⟨o,rfl,rfl,Ym,_,_,hins⟩:∃o,os=[o]∧ts=[]∧Good o∧o.id=⟨99,bI x.K 99+1⟩∧(∀i∈o.cY,Kn x.K i)∧((1:Nat)=1→o.k=1∧o.t=t∧o.l=ub (dw x) n∧o.r=F8 x.q (dw x) n):=by
   rcases hm with h|⟨h,_⟩
   ·exact h
   ·exact absurd (show(1:Nat)=3 from h) (by decide)
  obtain ⟨BA,_,hol,hor⟩:=hins rfl;rw [py,hL,←BJ]at hol hor;refine ah ?_;obtain ⟨a1,a2⟩:=hy.may hu;have hI:=hy.i.s5 S5;have hS:=(hS.aH (Pre:=Fb (.slice Ax [o].length cx) [o]::FL (.slice Ay ([]:List aK).length cy) []::ab b13 32 (aC g2)::ab b11 32 (aC g1)::aw::bC d {y with S5:=S5} [cN S6 e x]) (by repeat(first|with_reducible exact bk.nil|apply bk.ro (by repeat(first|exact zS ..|with_reducible apply zO)) (by rfl)|apply bk.own (by repeat(first|exact sY.head|with_reducible apply sY.tail))))).drop;refine RL.cM (w7 d {y with S5:=S5} l.length hI (by omega) (.slice Ax [o].length cx) (.slice Ay ([]:List aK).length cy) [o] [] hu.ol hu.tl a1 a2) ?_;clear hS;rintro _ m _ ⟨⟨_,rfl⟩,y',Wk,hG,rfl⟩ hS;simp only [bC,zC,zN]at hS;have eT:y'.T=y.T:=de hG.T hy.i.T fun c k=>by rw [Wk.T,List.append_nil]
  have eD2:y'.D=y.D:=by rw [hG.D,hy.i.D,eT]
  have eq2:y'.q.toUs=y.q.toUs.run (oU o) o.n:=by
   rw [Wk.q];show(if o.k=1∨o.k=2 then _ else _)=_;rw [if_pos (.inl BA)]
  obtain ⟨z,z1,z2,z3,_,_⟩:=law_sides VT y.D (oU o) o.n n (by rw [←BJ];exact If) (by rw [←BJ];exact hol) (by rw [←BJ,←eq_]at*;exact hor);rw [←eq2,←BJ]at z1 z2 z3;obtain ⟨L2,Xa⟩:∃L2,L2=lh y.D y'.q.toUs:=⟨_,rfl⟩;rw [←Xa]at z1;have hL2l:L2.length≤1000000:=by
   rw [Xa,lh];refine Nat.le_trans (List.length_filter_le _ _) ?_;rw [jI,List.length_map];have h1:y'.q.toUs.ax.length=y'.q.us.length:=hG.q.sT;have h2:=hG.us;omega
  have hus2:=hG.us;refine ⟨_,rfl,?_⟩;refine ah ?_;refine RL.cM (I9 d y' (by rw [eD2];exact P1) (by rw [eD2];omega)) ?_;clear hS;rintro v3 m _ ⟨S7,S8,rfl⟩ hS;simp only [bC,zC,zN]at hS;rw [show(im y'.D y'.q.ax).map (·.2.id)=L2 by rw [Xa,←eD2];exact qR y'.D y'.q.toUs]at hS;obtain ⟨A3,c3,rfl,_⟩:=Ev.Own.shape (show Ev.Own m S7 30 2 v3 L2.length (L2.flatMap iC) from hS.head);have hS:=(hS.aH (Pre:=cN S6 e x::ab b13 32 (aC g2)::ab b11 32 (aC g1)::aw::bC d {y' with S5:=S8} []) (by repeat(first|with_reducible exact bk.nil|apply bk.ro (by repeat(first|exact zS ..|with_reducible apply zO)) (by rfl)|apply bk.own (by repeat(first|exact sY.head|with_reducible apply sY.tail))))).drop;refine ⟨_,rfl,?_⟩;refine ah ?_;refine RL.cM (lV S6 e x (by rw [←eD];omega)) ?_;clear hS;rintro v4 m _ ⟨S9,S6,rfl⟩ hS;simp only [zC,zN]at hS;rw [py,hL,←BJ]at hS;obtain ⟨A4,c4,rfl,_⟩:=Ev.Own.shape (show Ev.Own m S9 30 2 v4 L.length (L.flatMap iC) from hS.head);have hS:=(hS.aH (Pre:=ab b13 32 (aC g2)::ab b11 32 (aC g1)::aw::bC d {y' with S5:=S8} []) (by repeat(first|with_reducible exact bk.nil|apply bk.ro (by repeat(first|exact zS ..|with_reducible apply zO)) (by rfl)|apply bk.own (by repeat(first|exact sY.head|with_reducible apply sY.tail))))).drop;refine ⟨_,rfl,?_⟩;refine ah ?_;rw [ag ((L2.length:Int)-(L.length:Int)) (by omega) (by omega),show(L2.length:Int)-(L.length:Int)=((z:Nat):Int) by omega];refine ah ?_;have fit:∀S5,(({y' with S5:=S5}:Dx)).q.us.length≤1000000:=fun S5=>by show y'.q.us.length≤_;omega
  refine RL.cM (um d {y' with S5:=S8} g1 hG.q (fit _) hG.tr (by show y'.D.length<_;rw [eD2];omega)) ?_;clear hS;rintro _ m _ ⟨rfl,S8,rfl⟩ hS;simp only [bC,zC,zN]at hS;rw [show gX y'.D y'.q.ax g1=((n:Int),true) by rw [eD2,X7];exact z2];have hS:=(hS.aH (Pre:=ab b13 32 (aC g2)::aw::bC d {y' with S5:=S8} []) (by repeat(first|with_reducible exact bk.nil|apply bk.ro (by repeat(first|exact zS ..|with_reducible apply zO)) (by rfl)|apply bk.own (by repeat(first|exact sY.head|with_reducible apply sY.tail))))).drop;refine ⟨_,rfl,?_⟩;refine ah ?_;refine RL.cM (um d {y' with S5:=S8} g2 hG.q (fit _) hG.tr (by show y'.D.length<_;rw [eD2];omega)) ?_;clear hS;rintro _ m _ ⟨rfl,S8,rfl⟩ hS;rw [show gX y'.D y'.q.ax g2=(((n+z:Nat):Int),true) by rw [eD2,Z5];exact z3];refine ⟨_,rfl,?_⟩;refine ah ?_;rw [show((n:Int)==(n:Int))=true from beq_self_eq_true _];refine ah ?_;rw [ag ((n:Int)+(z:Int)) (by omega) (by omega),show(n:Int)+(z:Int)=((n+z:Nat):Int) by omega,show(((n+z:Nat):Int)==((n+z:Nat):Int))=true from beq_self_eq_true _];refine ah ?_;exact QN.aj rfl rfl ⟨_,rfl,[],⟨rfl,rfl⟩,Tr.drop (H:=[]) hS⟩
 ·rw [show(ev !=0)=true from bne_iff_ne.2 PX];refine ah ?_;exact QN.aj rfl rfl ⟨_,rfl,[],⟨rfl,rfl⟩,Tr.drop (H:=[]) hS⟩
end Go.Proofs.YtgpgladbdoimdaaGreatDoor
