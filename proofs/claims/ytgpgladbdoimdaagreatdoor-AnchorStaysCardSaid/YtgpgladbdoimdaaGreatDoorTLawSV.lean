/- What is needed beyond the texts below. -/
import Derived.Test.YtgpgladbdoimdaaGreatDoorMLawMV50
namespace Go.AncP
section
variable{α:Type} [DecidableEq α]
theorem sub_of_idx:∀{l:List α} {x u:α},x∈l→u∈l→l.idxOf x<l.idxOf u→[x,u].Sublist l
 |a::l,x,u,hx,hu,h=>by
  rw [List.idxOf_cons,List.idxOf_cons]at h
  by_cases h1:a=x
  ·subst h1;have dP:¬a=u:=fun hh=>by subst hh;simp at h
   rcases List.mem_cons.1 hu with rfl|hu
   ·exact absurd rfl dP
   ·exact .cons_cons _ (List.singleton_sublist.2 hu)
  ·rcases List.mem_cons.1 hx with rfl|hx
   ·exact absurd rfl h1
   ·by_cases h2:a=u
    ·subst h2;simp at h
    ·rcases List.mem_cons.1 hu with rfl|hu
     ·exact absurd rfl h2
     ·simp only [beq_iff_eq,h1,h2,Bool.cond_eq_ite,if_false]at h;exact .cons _ (sub_of_idx hx hu (by omega))
theorem idx_of_sub:∀{l:List α} {x u:α},l.Nodup→[x,u].Sublist l→l.idxOf x<l.idxOf u
 |a::l,x,u,hn,h=>by
  obtain ⟨h1,h2⟩:=List.nodup_cons.1 hn;rw [List.idxOf_cons,List.idxOf_cons];rcases h with _|h|h
  ·rename_i h;have hx:x∈l:=h.subset (by simp);have hu:u∈l:=h.subset (by simp);have e1:¬a=x:=fun hh=>h1 (hh▸hx)
   have e2:¬a=u:=fun hh=>h1 (hh▸hu)
   have:=idx_of_sub h2 h;simp only [beq_iff_eq,e1,e2,Bool.cond_eq_ite,if_false];omega
  ·rename_i h;have hu:u∈l:=List.singleton_sublist.1 h;have e2:¬a=u:=fun hh=>h1 (hh▸hu)
   simp [e2,Bool.cond_eq_ite]
theorem idx_sub{l l':List α}{x u:α}(hs:l.Sublist l')(hn:l'.Nodup)(hx:x∈l)(hu:u∈l):l.idxOf x<l.idxOf u↔l'.idxOf x<l'.idxOf u:=by
 refine ⟨fun h=>idx_of_sub hn ((sub_of_idx hx hu h).trans hs),fun h=>?_⟩;rcases Nat.lt_trichotomy (l.idxOf x) (l.idxOf u)with h1|h1|h1
 ·exact h1
 ·have:x=u:=by
   have e1:=List.getElem_idxOf (List.idxOf_lt_length_of_mem hx);have e2:=List.getElem_idxOf (List.idxOf_lt_length_of_mem hu);rw [←e1,←e2];simp only [h1]
  subst this;omega
 ·have:=idx_of_sub hn ((sub_of_idx hu hx h1).trans hs);omega
theorem gap_sub{l l':List α}{i:Option α}{b:Bool}{g:Nat}(hs:l.Sublist l')(hn:l'.Nodup)(h:P5 l i b=some g):∃g',P5 l' i b=some g'∧∀x∈l,(l.idxOf x<g↔l'.idxOf x<g'):=by
 cases i with
 |none=>
  refine ⟨_,rfl,fun x hx=>?_⟩;simp only [P5,Option.some.injEq]at h;subst h;have h1:=List.idxOf_lt_length_of_mem hx;have h2:=List.idxOf_lt_length_of_mem (hs.subset hx);cases b<;>simp [h1,h2]
 |some u=>
  unfold P5 at h;simp only at h
  split at h
  ·rename_i hu;cases h;refine ⟨l'.idxOf u+if b then 1 else 0,by simp [P5,hs.subset hu],fun x hx=>?_⟩;have h1:=idx_sub hs hn hx hu;have h2:=idx_sub hs hn hu hx;cases b<;>simp<;>omega
  ·cases h
theorem stays{p p':α→Bool}{l l':List α}{k:Nat}{b:Bool}(hs:l.Sublist l')(hn:l'.Nodup)(hk:k≤(l.filter p).length):∃i c g',mk (l.filter p) k b=some (i,c)∧P5 l' i c=some g'∧
  ∀s t x,(l'.filter p')[s]?=some x→(l.filter p)[t]?=some x→(s<rH p' l' g'↔t<k):=by
 obtain ⟨i,c,g,h1,h2,h3,_⟩:=Nr (b:=b) (hn.sublist hs) hk;obtain ⟨g',h4,h5⟩:=gap_sub hs hn h2;refine ⟨i,c,g',h1,h4,fun s t x hx Mh=>?_⟩;rw [G6 hn hx,←h5 x (List.mem_filter.1 (List.mem_of_getElem? Mh)).1,←G6 (p:=p) (hn.sublist hs) Mh,h3]
end
end Go.AncP
namespace Go.Proofs.YtgpgladbdoimdaaGreatDoor
open Go.RowKit Go.Ev Go.Ids Go.SeqP Go.AncP
theorem law_stays{q q':Us}(hq:q.Ok)(pR:q'.Ok)(D D':List aG)(hs:(jI q.ax).Sublist (jI q'.ax))(k:Nat)(b:Bool)(hk:k≤(lh D q).length):
  ∃n:Nat,(dJ (lh D q) k b).2=true∧gX D' q'.ax (dJ (lh D q) k b).1=((n:Int),true)∧n≤(lh D' q').length∧∀(s t:Nat) (x:aL),(lh D' q')[s]?=some x→(lh D q)[t]?=some x→(s<n↔t<k):=by
 obtain ⟨i,c,g',h1,h2,h3⟩:=stays (p:=shown D) (p':=shown D') (b:=b) hs (show(jI q'.ax).Nodup from pR.lz) hk;obtain ⟨i2,c2,g,e1,_,_,h4⟩:=Nr (p:=shown D) (b:=b) (show(jI q.ax).Nodup from hq.lz) hk;rw [h1]at e1;cases e1;rw [show lh D q=(jI q.ax).filter (shown D) from rfl,Ks h1];exact ⟨_,rfl,IE pR.yk D' (fun x hx=>M1 hq x (h4 x hx)) h2,Go.AncP.uz ..,h3⟩
open Go.ChangeShapes Go.WideShapes Go.ChangeAt
theorem upd_of{x:Rx}{l:List ia}{c:Nat}{e:Ed}{os:List a6}{ts:List aK}(hx:RD x l)(hc:1≤c)(hm:H6 x c e os ts):jN (nZ l) ⟨os,ts⟩:=by
 obtain ⟨k,rfl⟩:∃k,c=k+1:=⟨c-1,by omega⟩;exact (th (k:=k) (h:=l.length) (l:=l) (hx.i.sA fun c=>by
  unfold Kw
  split
  ·rfl
  ·rw [List.take_length]) hm).1
theorem qU_sub{q:Us}(hq:q.Ok)(os:List a6):(jI q.ax).Sublist (jI (qU os q).ax):=by
 unfold qU
 split
 ·exact .refl _
 ·rename_i o _
  split
  ·unfold Us.run
   split
   ·rename_i hr;have r:=Us.iM.1 hr;obtain ⟨n',xw⟩:∃n',o.n=n'+1:=⟨o.n-1,by have:=r.pos;omega⟩;have hu:=hq.BK r n' (by omega);rw [←xw]at hu;rw [hu];unfold jI;rw [List.map_append,List.map_append]
    conv=>lhs;rw [←List.take_append_drop (q.pl (oU o)) q.ax,List.map_append]
    exact (List.Sublist.refl _).append (List.sublist_append_right ..)
   ·exact .refl _
  ·exact .refl _
set_option maxRecDepth 20000
set_option maxHeartbeats 20000000
theorem stays_s(wi:Int)(v:Value)(ls:List Nat)(Oa:∀n∈ls,n<4294967296)(at_:Int)(after:Bool)(v9:Value)(ms:List Nat)(h33:∀n∈ms,n<4294967296):bu Tryz.prog 5 [.int .i64 wi,v,.int .i64 at_,.bool after,v9] [aw,bW 1 v (ls.flatMap u4),bW 1 v9 (ms.flatMap u4)] (fun r H=>r=.bool true∧H=[]):=by
 intro m0 X hS;obtain ⟨M0,bR⟩:∃M0,M0=au [aw,bW 1 v (ls.flatMap u4),bW 1 v9 (ms.flatMap u4)]:=⟨_,rfl⟩;rw [←bR]at hS ⊢;obtain ⟨A,c,rfl,_,_,_⟩:=Sl.gY u4 oJ (hS.bE (show bW 1 v (ls.flatMap u4)∈_ from(by with_reducible repeat(first|exact zS ..|apply zO)))) (by decide);obtain ⟨A9,c9,rfl,_,_,hA9⟩:=Sl.gY u4 oJ (hS.bE (show bW 1 v9 (ms.flatMap u4)∈_ from(by with_reducible repeat(first|exact zS ..|apply zO)))) (by decide);refine aP.enter ⟨_,Tryz.func5,by kernel_rfl,by kernel_rfl⟩ Tryz.func5 rfl rfl ?_;refine ah ?_;refine RL.cM Hu ?_;clear hS;rintro _ m _ ⟨rfl,rfl⟩ hS;simp only [List.nil_append]at hS;refine ⟨_,rfl,?_⟩;refine ah ?_;rcases Nat.lt_or_ge 40 ls.length with aM|hle
 ·rw [decide_eq_true (show(ls.length:Int)>40 by omega)];refine ah ?_;exact QN.aj rfl rfl ⟨_,rfl,_,⟨rfl,rfl⟩,hS.drop (H:=[])⟩
 rw [decide_eq_false (show¬(ls.length:Int)>40 by omega)];refine ah ?_;rcases Nat.lt_or_ge 20 ms.length with aM|QP
 ·rw [decide_eq_true (show(ms.length:Int)>20 by omega)];refine ah ?_;exact QN.aj rfl rfl ⟨_,rfl,_,⟨rfl,rfl⟩,hS.drop (H:=[])⟩
 rw [decide_eq_false (show¬(ms.length:Int)>20 by omega)];refine ah ?_;refine RL.cM (L7 wi (.slice A ls.length c) ls (by omega) Oa) ?_;clear hS;rintro _ m _ ⟨d,e,y,S,x,l,rfl,hr,pY,hy,hx,rfl⟩ hS;obtain ⟨eD,eq_,P1,Ob,Fs⟩:=EJ hy hx;have VT:=hy.i.q;simp only [bC,zC,zN]at hS;have hS:=(hS.aH (Pre:=cN S e x::aw::bC d {y with S5:=y.S5} [bW 1 (.slice A9 ms.length c9) (ms.flatMap u4)]) (by repeat(first|with_reducible exact bk.nil|apply bk.ro (by repeat(first|exact zS ..|with_reducible apply zO)) (by rfl)|apply bk.own (by repeat(first|exact sY.head|with_reducible apply sY.tail))))).drop;have hL:lh x.D x.q=lh y.D y.q.toUs:=by rw [eD,eq_]
 obtain ⟨L,BJ⟩:∃L,L=lh y.D y.q.toUs:=⟨_,rfl⟩;have Fg:L.length≤1000000:=by
  rw [BJ,lh];refine Nat.le_trans (List.length_filter_le _ _) ?_;rw [jI,List.length_map];have:y.q.toUs.ax.length=y.q.us.length:=VT.sT;omega
 refine ⟨_,rfl,?_⟩;refine ah ?_;refine RL.cM (lV S e x (by rw [←eD];omega)) ?_;clear hS;rintro v2 m _ ⟨S3,S4,rfl⟩ hS;simp only [zC,zN]at hS;rw [py,hL,←BJ]at hS;obtain ⟨A2,c2,rfl,_⟩:=Ev.Own.shape (show Ev.Own m S3 30 2 v2 L.length (L.flatMap iC) from hS.head);have hS:=(hS.aH (Pre:=aw::bC d {y with S5:=y.S5} [cN S4 e x,bW 1 (.slice A9 ms.length c9) (ms.flatMap u4)]) (by repeat(first|with_reducible exact bk.nil|apply bk.ro (by repeat(first|exact zS ..|with_reducible apply zO)) (by rfl)|apply bk.own (by repeat(first|exact sY.head|with_reducible apply sY.tail))))).drop;refine ⟨_,rfl,?_⟩;refine aZ ?_;rw [ag ((L.length:Int)+1) (by omega) (by omega),show(L.length:Int)+1=((L.length+1:Nat):Int) by omega];refine aZ ?_;refine RL.cU (AJ at_ L.length (by omega)) (fun m hS=>?_) (hs:=.nil);obtain ⟨n,hn,If⟩:∃n:Nat,at_%((L.length+1:Nat):Int)=(n:Int)∧n≤L.length:=by
  have h1:=Int.emod_nonneg at_ (show((L.length+1:Nat):Int)≠0 by omega);have h2:=Int.emod_lt_of_pos at_ (show(0:Int)<((L.length+1:Nat):Int) by omega);exact ⟨(at_%((L.length+1:Nat):Int)).toNat,by omega,by omega⟩
 rw [hn];refine ah ?_;refine RL.cM (rY d {y with S5:=y.S5} P1 (by show y.D.length≤_;omega) n after) ?_;clear hS;rintro _ m _ ⟨rfl,S5,rfl⟩ hS;simp only [bC,zC,zN]at hS;have hS:=(hS.aH (Pre:=cN S4 e x::aw::bC d {y with S5:=S5} [bW 1 (.slice A9 ms.length c9) (ms.flatMap u4)]) (by repeat(first|with_reducible exact bk.nil|apply bk.ro (by repeat(first|exact zS ..|with_reducible apply zO)) (by rfl)|apply bk.own (by repeat(first|exact sY.head|with_reducible apply sY.tail))))).drop;rw [show(im y.D y.q.ax).map (·.2.id)=L by rw [BJ];exact qR y.D y.q.toUs];have w1:(dJ L n after).2=true:=by rw [BJ];exact (E1 VT y.D n after (by rw [←BJ];exact If)).1
 rw [w1];obtain ⟨a,ha⟩:∃a:sF,a=(dJ L n after).1:=⟨_,rfl⟩;rw [←ha];refine ⟨_,rfl,?_⟩;refine ah ?_
 (try clear hS);intro b13 m hS;refine ⟨_,rfl,?_⟩;refine ah ?_
 (try clear hS);intro m hS;refine ah ?_
 refine RL.cM (lV S4 e x (by rw [←eD];omega)) ?_;clear hS;rintro vw m _ ⟨Sw,S4,rfl⟩ hS;simp only [zC,zN]at hS;rw [py,hL,←BJ]at hS;obtain ⟨Aw,cw,rfl,_,_,hAw⟩:=Sl.gY iC fZ (hS.aW (show bf Sw vw L∈_ from(by with_reducible repeat(first|exact zS ..|apply zO)))) (by decide);have hS:=(hS.aH (Pre:=bf Sw (.slice Aw L.length cw) L::ab b13 32 (aC a)::bW 1 (.slice A9 ms.length c9) (ms.flatMap u4)::aw::bC d {y with S5:=S5} [cN S4 e x]) (by repeat(first|with_reducible exact bk.nil|apply bk.ro (by repeat(first|exact zS ..|with_reducible apply zO)) (by rfl)|apply bk.own (by repeat(first|exact sY.head|with_reducible apply sY.tail))))).drop;have Oq:DD {y with S5:=S5} l:=⟨hy.i.s5 _,hy.k,hy.q,hy.t,hy.cv⟩;refine ⟨_,rfl,?_⟩;refine ah ?_;refine (WP.eo (X:=Nat×List ia×Dx×List Nat×Rx) (fun z=>[(2,.int .i64 n),(4,.slice A9 ms.length c9),(11,pA d),(12,pA e),(13,pA b13),(14,.bool true),(15,.slice Aw L.length cw),(16,.int .i64 z.1)])
  (fun z m'=>(z.1≤ms.length∧DD z.2.2.1 z.2.1∧RD z.2.2.2.2 z.2.1∧z.2.1.length≤50+z.1∧(jI y.q.toUs.ax).Sublist (jI z.2.2.1.q.toUs.ax))∧Tr m0 M0 X m' (bf Sw (.slice Aw L.length cw) L::ab b13 32 (aC a)::bW 1 (.slice A9 ms.length c9) (ms.flatMap u4)::aw::bC d z.2.2.1 [cN z.2.2.2.1 e z.2.2.2.2]))
  (fun z m'=>(DD z.2.2.1 z.2.1∧RD z.2.2.2.2 z.2.1∧z.2.1.length≤70∧(jI y.q.toUs.ax).Sublist (jI z.2.2.1.q.toUs.ax))∧Tr m0 M0 X m' (bf Sw (.slice Aw L.length cw) L::ab b13 32 (aC a)::bW 1 (.slice A9 ms.length c9) (ms.flatMap u4)::aw::bC d z.2.2.1 [cN z.2.2.2.1 e z.2.2.2.2]))
  (fun z=>ms.length-z.1) (0,l,{y with S5:=S5},S4,x) 0 (by repeat(first|exact Sub.nil|refine Sub.C1 rfl ?_)) ⟨⟨Nat.zero_le _,Oq,hx,by dsimp only;omega,.refl _⟩,hS⟩ ?_ ?_)
 ·clear hS;rintro ⟨i,l2,y2,S,x2⟩ m ⟨⟨hi,Rl,mH,zy,Bn⟩,hS⟩;dsimp only at hi Rl mH zy Bn hS ⊢;refine ah ?_;rcases Nat.lt_or_ge i ms.length with aM|fW
  ·rw [decide_eq_true (show(i:Int)<(ms.length:Int) by omega)];obtain ⟨nv,Qg⟩:∃nv,ms[i]?=some nv:=⟨_,List.getElem?_eq_getElem aM⟩;have WN:=h33 nv (List.mem_of_getElem? Qg);obtain ⟨ad,rfl⟩:=hA9 i nv Qg;have hus2:x2.q.us.length≤1000000:=by have:=mH.i.s.q;omega
   have hDl2:x2.D.length≤1000000:=by have:=mH.i.s.D;omega
   refine ah ?_;refine RL.kh aa u4 oJ (hS.bE (show bW 1 (.slice (some ad) ms.length c9) (ms.flatMap u4)∈_ from(by with_reducible repeat(first|exact zS ..|apply zO)))) Qg 0 rfl rfl rfl (by rfl) rfl rfl rfl ?_;refine ah ?_;refine RL.cM (KH S e x2 mH.i.q hus2 hDl2 nv WN) ?_;clear hS;rintro _ m _ ⟨ed,vp,path,S5',rfl,he,A0,rfl⟩ hS;simp only [zC,zN]at hS;refine ⟨_,rfl,?_⟩;refine ah ?_;rw [show((i:Int)).tmod 3=((i%3:Nat):Int) from ij i 3];have h3:i%3<3:=Nat.mod_lt _ (by decide);rw [aq ((i%3:Nat):Int) (by omega) (by omega),aq (90+((i%3:Nat):Int)) (by omega) (by omega),show 90+((i%3:Nat):Int)=((90+i%3:Nat):Int) by omega];refine RL.cM (II S5' e x2 l2.length mH.i.s (by omega) mH.i.i (90+i%3) ⟨by omega,by omega⟩ ed he vp path (by omega)) ?_;clear hS;rintro _ m _ ⟨ev,vo,vt,os,ts,S6,rfl,Y5,X2,rfl⟩ hS;simp only [zC,zN]at hS;obtain ⟨Ax,cx,rfl,_,_,_⟩:=Sl.gY oC bP (hS.bE (show dO vo os∈_ from(by with_reducible repeat(first|exact zS ..|apply zO)))) (by decide);obtain ⟨Ay,cy,rfl,_,_,_⟩:=Sl.gY tC xn (hS.bE (show gh vt ts∈_ from(by with_reducible repeat(first|exact zS ..|apply zO)))) (by decide);refine ⟨_,rfl,?_⟩;refine ah ?_
   (try clear hS);intro b17 m hS;refine ⟨_,rfl,?_⟩;refine ah ?_
   (try clear hS);intro m hS;refine ah ?_
   by_cases PX:ev=0
   ·subst PX;have hm:=Y5 rfl;have hu:=upd_of mH (by omega) hm;refine ah ?_;have hS:=(hS.aH (Pre:=dO (.slice Ax os.length cx) os::gh (.slice Ay ts.length cy) ts::cN S6 e x2::ab b17 58 [.slice Ax os.length cx,.slice Ay ts.length cy]::bf Sw (.slice Aw L.length cw) L::ab b13 32 (aC a)::bW 1 (.slice (some ad) ms.length c9) (ms.flatMap u4)::aw::bC d y2 []) (by repeat(first|with_reducible exact bk.nil|apply bk.ro (by repeat(first|exact zS ..|with_reducible apply zO)) (by rfl)|apply bk.own (by repeat(first|exact sY.head|with_reducible apply sY.tail))))).drop;refine RL.cM (o5 S6 e x2 l2.length mH.i.s (by omega) mH.i.w (.slice Ax os.length cx) (.slice Ay ts.length cy) os ts hu.ol (mH.i.fresh (x':=x2) hu).1 hu.tl (fun T' hT=>mH.i.may hu.cv hT)) ?_;clear hS;rintro _ m _ ⟨rfl,S7,x3,ZI,_,rfl⟩ hS;simp only [zC,zN]at hS;refine ⟨_,rfl,?_⟩;refine ah ?_;obtain ⟨a1,a2⟩:=Rl.may hu;refine RL.cM (w7 d y2 l2.length Rl.i (by omega) (.slice Ax os.length cx) (.slice Ay ts.length cy) os ts hu.ol hu.tl a1 a2) ?_;clear hS;rintro _ m _ ⟨⟨_,rfl⟩,y3,Wk,GH,rfl⟩ hS;simp only [bC,zC,zN]at hS;have hS:=(hS.aH (Pre:=bf Sw (.slice Aw L.length cw) L::ab b13 32 (aC a)::bW 1 (.slice (some ad) ms.length c9) (ms.flatMap u4)::aw::bC d y3 [cN S7 e x3]) (by repeat(first|with_reducible exact bk.nil|apply bk.ro (by repeat(first|exact zS ..|with_reducible apply zO)) (by rfl)|apply bk.own (by repeat(first|exact sY.head|with_reducible apply sY.tail))))).drop;refine ⟨_,rfl,?_⟩;refine ah ?_;rw [ag ((i:Int)+1) (by omega) (by omega),show(i:Int)+1=((i+1:Nat):Int) by omega];exact QN.round (i+1,l2++[⟨os,ts⟩],y3,S7,x3) (by repeat(first|exact Sub.nil|refine Sub.C1 rfl ?_)) ⟨⟨aM,Rl.snoc hu Wk GH,mH.snoc hu ZI,by dsimp only;rw [List.length_append,List.length_singleton];omega,Bn.trans (by rw [Wk.q];exact qU_sub Rl.i.q os)⟩,hS⟩ (by dsimp only;omega)
   ·rw [show(ev==0)=false from beq_eq_false_iff_ne.2 PX];refine ah ?_;rw [ag ((i:Int)+1) (by omega) (by omega),show(i:Int)+1=((i+1:Nat):Int) by omega];have hS:=(hS.aH (Pre:=bf Sw (.slice Aw L.length cw) L::ab b13 32 (aC a)::bW 1 (.slice (some ad) ms.length c9) (ms.flatMap u4)::aw::bC d y2 [cN S6 e x2]) (by repeat(first|with_reducible exact bk.nil|apply bk.ro (by repeat(first|exact zS ..|with_reducible apply zO)) (by rfl)|apply bk.own (by repeat(first|exact sY.head|with_reducible apply sY.tail))))).drop;exact QN.round (i+1,l2,y2,S6,x2) (by repeat(first|exact Sub.nil|refine Sub.C1 rfl ?_)) ⟨⟨aM,Rl,mH,by dsimp only;omega,Bn⟩,hS⟩ (by dsimp only;omega)
  ·rw [decide_eq_false (show¬(i:Int)<(ms.length:Int) by omega)];refine ah ?_;exact QN.du (i,l2,y2,S,x2) (by repeat(first|exact Sub.nil|refine Sub.C1 rfl ?_)) ⟨⟨Rl,mH,by dsimp only;omega,Bn⟩,hS⟩
 ·clear hS;rintro ⟨i,l2,y2,S,x2⟩ m ⟨⟨Rl,mH,zy,Bn⟩,hS⟩;dsimp only at Rl mH zy Bn hS ⊢;refine QN.bx ?_;obtain ⟨eD2,eq2,hDc2,hDl2,hus2⟩:=EJ Rl mH;obtain ⟨p,_,w4,w5,w6⟩:=law_stays VT Rl.i.q y.D y2.D Bn n after (by rw [←BJ];exact If);rw [←BJ,←ha]at w4;rw [←BJ]at w6;obtain ⟨L2,Xa⟩:∃L2,L2=lh y2.D y2.q.toUs:=⟨_,rfl⟩;rw [←Xa]at w5 w6;have hL2l:L2.length≤1000000:=by
   rw [Xa,lh];refine Nat.le_trans (List.length_filter_le _ _) ?_;rw [jI,List.length_map];have h1:y2.q.toUs.ax.length=y2.q.us.length:=Rl.i.q.sT;omega
  refine ah ?_;refine RL.cM (um d y2 a Rl.i.q (by omega) Rl.i.tr (by omega)) ?_;clear hS;rintro _ m _ ⟨rfl,S8,rfl⟩ hS;simp only [bC,zC,zN]at hS;rw [show gX y2.D y2.q.ax a=((p:Int),true) from w4];have hS:=(hS.aH (Pre:=cN S e x2::[bf Sw (.slice Aw L.length cw) L]) (by repeat(first|with_reducible exact bk.nil|apply bk.ro (by repeat(first|exact zS ..|with_reducible apply zO)) (by rfl)|apply bk.own (by repeat(first|exact sY.head|with_reducible apply sY.tail))))).drop;refine ⟨_,rfl,?_⟩;refine ah ?_;refine RL.cM (lV S e x2 (by rw [←eD2];omega)) ?_;clear hS;rintro v7 m _ ⟨S9,S8,rfl⟩ hS;simp only [zC,zN]at hS;rw [py,←eD2,←eq2,←Xa]at hS;obtain ⟨A7,c7,rfl,_,_,hA7⟩:=Sl.gY iC fZ (hS.aW (show bf S9 v7 L2∈_ from(by with_reducible repeat(first|exact zS ..|apply zO)))) (by decide);have hS:=(hS.aH (Pre:=bf S9 (.slice A7 L2.length c7) L2::[bf Sw (.slice Aw L.length cw) L]) (by repeat(first|with_reducible exact bk.nil|apply bk.ro (by repeat(first|exact zS ..|with_reducible apply zO)) (by rfl)|apply bk.own (by repeat(first|exact sY.head|with_reducible apply sY.tail))))).drop;refine ⟨_,rfl,?_⟩;refine ah ?_;refine (WP.eo (X:=Nat) (fun j=>[(2,.int .i64 n),(15,.slice Aw L.length cw),(19,.int .i64 p),(21,.slice A7 L2.length c7),(22,.int .i64 j)])
   (fun j m'=>j≤L2.length∧Tr m0 M0 X m' (bf S9 (.slice A7 L2.length c7) L2::[bf Sw (.slice Aw L.length cw) L])) (fun _ m'=>Tr m0 M0 X m' (bf S9 (.slice A7 L2.length c7) L2::[bf Sw (.slice Aw L.length cw) L])) (fun j=>L2.length-j) 0 2
   (by repeat(first|exact Sub.nil|refine Sub.C1 rfl ?_)) ⟨Nat.zero_le _,hS⟩ ?_ ?_)
  ·clear hS;rintro j m ⟨hj,hS⟩;refine ah ?_;rcases Nat.lt_or_ge j L2.length with aM|fW
   ·rw [decide_eq_true (show(j:Int)<(L2.length:Int) by omega)];obtain ⟨s,hs⟩:∃s,L2[j]?=some s:=⟨_,List.getElem?_eq_getElem aM⟩;refine ah ?_;refine (WP.eo (X:=Nat) (fun k=>[(2,.int .i64 n),(15,.slice Aw L.length cw),(19,.int .i64 p),(21,.slice A7 L2.length c7),(22,.int .i64 j),(23,.int .i64 k)])
     (fun k m'=>k≤L.length∧Tr m0 M0 X m' (bf S9 (.slice A7 L2.length c7) L2::[bf Sw (.slice Aw L.length cw) L])) (fun _ m'=>Tr m0 M0 X m' (bf S9 (.slice A7 L2.length c7) L2::[bf Sw (.slice Aw L.length cw) L])) (fun k=>L.length-k) 0 4
     (by repeat(first|exact Sub.nil|refine Sub.C1 rfl ?_)) ⟨Nat.zero_le _,hS⟩ ?_ ?_)
    ·clear hS;rintro k m ⟨hk,hS⟩;refine ah ?_;rcases Nat.lt_or_ge k L.length with O2|Sa
     ·rw [decide_eq_true (show(k:Int)<(L.length:Int) by omega)];obtain ⟨u,hu⟩:∃u,L[k]?=some u:=⟨_,List.getElem?_eq_getElem O2⟩;refine ah ?_;obtain ⟨ad7,rfl⟩:=hA7 j s hs;obtain ⟨adw,rfl⟩:=hAw k u hu;refine WP.bG [bf S9 (.slice (some ad7) L2.length c7) L2,bf Sw (.slice (some adw) L.length cw) L] hS (an.self _) (by kernel_rfl) ?_;refine aZ ?_;refine RH.fg aa ai.calm iC fZ (JS.aW (show bf S9 (.slice (some ad7) L2.length c7) L2∈_ from(by with_reducible repeat(first|exact zS ..|apply zO)))) hs 0 (iC s) rfl rfl rfl (by kernel_rfl) rfl rfl rfl (by rfl) rfl rfl rfl ?_;refine aZ ?_;refine RH.fg aa ai.calm iC fZ (JS.aW (show bf Sw (.slice (some adw) L.length cw) L∈_ from zO _ (by with_reducible repeat(first|exact zS ..|apply zO)))) hu 0 (iC u) rfl rfl rfl (by kernel_rfl) rfl rfl rfl (by rfl) rfl rfl rfl ?_;refine aZ ?_;refine RH.bin (cX s u) (aY _ _ _ _ _) ?_;have hw:IntKind.i64.wrap ((k:Int)+1)=((k+1:Nat):Int):=by rw [ag _ (by omega) (by omega)];simp
      by_cases hsu:s=u
      ·rw [decide_eq_true hsu];subst hsu;have h6:=w6 j k s hs hu;refine aZ ?_;rw [show decide ((j:Int)<(p:Int))=decide ((k:Int)<(n:Int)) by rw [Bool.eq_iff_iff,decide_eq_true_eq,decide_eq_true_eq];omega];refine aZ ?_;rw [show(!(decide ((k:Int)<(n:Int))==decide ((k:Int)<(n:Int))))=false by simp];refine ah ?_;rw [hw];exact QN.round (k+1) (by repeat(first|exact Sub.nil|refine Sub.C1 rfl ?_)) ⟨O2,hS⟩ (by omega)
      ·rw [decide_eq_false hsu];refine ah ?_;rw [hw];exact QN.round (k+1) (by repeat(first|exact Sub.nil|refine Sub.C1 rfl ?_)) ⟨O2,hS⟩ (by omega)
     ·rw [decide_eq_false (show¬(k:Int)<(L.length:Int) by omega)];refine ah ?_;exact QN.du k (by repeat(first|exact Sub.nil|refine Sub.C1 rfl ?_)) hS
    ·clear hS;rintro k m hS;refine QN.bx ?_;refine ah ?_;rw [ag ((j:Int)+1) (by omega) (by omega),show(j:Int)+1=((j+1:Nat):Int) by omega];exact QN.round (j+1) (by repeat(first|exact Sub.nil|refine Sub.C1 rfl ?_)) ⟨aM,hS⟩ (by omega)
   ·rw [decide_eq_false (show¬(j:Int)<(L2.length:Int) by omega)];refine ah ?_;exact QN.du j (by repeat(first|exact Sub.nil|refine Sub.C1 rfl ?_)) hS
  ·clear hS;rintro j m hS;refine QN.bx ?_;refine ah ?_;rw [decide_eq_true (show(p:Int)≤(L2.length:Int) by omega)];refine ah ?_;exact QN.aj rfl rfl ⟨_,rfl,[],⟨rfl,rfl⟩,Tr.drop (H:=[]) hS⟩
end Go.Proofs.YtgpgladbdoimdaaGreatDoor
