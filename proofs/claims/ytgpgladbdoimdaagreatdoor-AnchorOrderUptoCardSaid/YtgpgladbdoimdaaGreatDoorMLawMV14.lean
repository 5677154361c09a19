/- Texts that belong together. -/
import Derived.Test.YtgpgladbdoimdaaGreatDoorMLawMV10
import Derived.Test.YtgpgladbdoimdaaGreatDoorRows
import Derived.Carry
namespace Go.Proofs.YtgpgladbdoimdaaGreatDoor
open Go.RowKit Go.Ev Go.Ids
theorem Ho(l:List aG)(k:Nat):(l.flatMap rC).take (k*3)=(l.take k).flatMap rC:=by
 induction k generalizing l with
 |zero=>simp
 |succ k ih=>
  cases l with
  |nil=>simp
  |cons x l=>
   rw [vH,List.take_succ_cons,vH,←ih l,xQ,wQ];exact List.take_length_add_append (l₁:=rC x) (k*3)
theorem Ik(l:List aG)(k:Nat):(l.flatMap rC).drop (k*3)=(l.drop k).flatMap rC:=by
 induction k generalizing l with
 |zero=>simp
 |succ k ih=>
  cases l with
  |nil=>simp
  |cons x l=>
   exact ah6
theorem Cv(l:List aG)(k:Nat)(y:aG):(l.flatMap rC).take (k*3)++rC y++(l.flatMap rC).drop (k*3+3)=(l.take k++[y]++l.drop (k+1)).flatMap rC:=by
 rw [Ho,show k*3+3=(k+1)*3 by omega,Ik];simp
theorem za(d:List aG)(w:aG)(k:Nat)(h:k≤d.length):(d.take k++[w]++d.drop k).take k=d.take k:=by
 rw [wM,yE Jq,tF,Nat.min_self]
theorem zn(d:List aG)(w:aG)(k:Nat)(h:k≤d.length):(d.take k++[w]++d.drop k).drop (k+1)=d.drop k:=by
 have h1:(d.take k++[w]).length=k+1:=by simp;omega
 have h2:=List.drop_left (l₁:=d.take k++[w]) (l₂:=d.drop k);rw [h1]at h2;exact h2
theorem EB(d:List aG)(q:Nat)(h:q<d.length):d.take (q+1)++[d[q]]++d.drop (q+1)=d.take q++[d[q]]++d.drop q:=by
 rw [vN h,tI h];simp
theorem Kl(d:List aG)(w:aG)(q:Nat)(h:q<d.length)(h':q<(d.take (q+1)++[w]++d.drop (q+1)).length):(d.take (q+1)++[w]++d.drop (q+1))[q]=d[q]:=by
 rw [uY J6,uY J6,xH]
theorem q6(m:World)(v:Value)(l:List aG)(h:Rs m [] v l)(hl:l.length<500000000):
  dg Tryz.prog 109 [v] m fun r m'=>∃S',Ev.Own m' S' 167 3 r (clean l).length ((clean l).flatMap rC)∧ek m S' m':=by
 obtain ⟨A,c,rfl,_,_⟩:=h.shape;refine aP.zA Tryz.func109 ?_;refine af5 ?_;refine aa0 ?_;refine (WP.loop (X:=Nat×Value×List Nat×List aG) (fun x=>[(0,.slice A l.length c),(3,x.2.1),(4,.int .i64 x.1)])
  (fun x m'=>x.1≤l.length∧x.2.2.2.Pairwise aG.le∧x.2.2.2.Perm ((l.take x.1).filter aG.right)∧Ev.Own m' x.2.2.1 167 3 x.2.1 x.2.2.2.length (x.2.2.2.flatMap rC)∧ek m x.2.2.1 m') (fun x=>l.length-x.1) (0,.slice none 0 0,[],[])
  YC ⟨YA,List.Pairwise.nil,YA,Own.empty _ _ _ _,Ext.refl _ _,bp.nil _ _⟩ ?_)
 rintro ⟨i,u,S,d⟩ m1 ⟨hi,hd,hp,hO,hN⟩;simp only at hi hd hp hO hN;obtain ⟨Au,cu,rfl,_⟩:=hO.shape;refine aa8 ?_;refine WP.cond rfl (fun hc=>?_) (fun hc=>?_)
 ·replace hc:i<l.length:=by have:=xS hc;simp only at this;omega
  obtain ⟨ad,rfl,hx⟩:=(h.bQ hN.1).cell i hc;have bo:(l.take (i+1)).filter aG.right=(l.take i).filter aG.right++(if l[i].right then[l[i]]else[]):=by
   rw [vN hc,xX];cases h:l[i].right<;>simp [h]
  have PW:d.length≤l.length:=by
   rw [hp.length_eq];exact wG (xD _ _) (wG (List.length_take_le _ _) hi)
  obtain ⟨x,gi⟩:∃x,l[i]=x:=⟨_,rfl⟩;rw [gi]at hx bo;refine aj2 ?_;refine ab0 ?_;refine RL.aJ aa (rC x) rfl rfl rfl hx rfl ?_;refine zM (kH m1 x) ?_;rintro _ m2 ⟨rfl,bM⟩;refine aa1 ?_;have gJ:=hO.ext bM YA;have jr:ek m S m2:=⟨hN.1.trans bM YA,hN.2⟩;refine RL.A1 aa rfl ?_;refine RL.N1 (YE ?_);refine WP.cond rfl (fun hr=>?_) (fun hr=>?_)
  ·have hr:x.right=false:=by simpa using hr
   refine ac2 ?_;refine ag8 ?_;refine RL.N1 (QN.round (i+1,.slice Au d.length cu,S,d) YC ⟨by show i+1≤_;omega,hd,?_,gJ,jr⟩ Jj);show d.Perm ((l.take (i+1)).filter aG.right);rw [bo,hr];simpa using hp
  ·have hr:x.right=true:=by simpa using hr
   rw [yS hr]at bo;have RY:Rs m2 [] (.slice Au d.length cu) d:=gJ.sl YA;refine WP.skip (YE ?_);refine RL.A1 aa rfl ?_;refine RL.N1 (YE ?_);refine (WP.loop (X:=Nat×Nat) (fun q=>[(0,.slice (some ad) l.length c),(3,.slice Au d.length cu),(4,.int .i64 i),(5,.int .i64 q.1),(6,.int .i64 q.2)])
    (fun q m'=>q.1≤q.2∧q.2≤d.length∧(∀j (h:j<d.length),j<q.1→¬x.lt d[j]=true)∧(∀j (h:j<d.length),q.2≤j→x.lt d[j]=true)∧Ext m2 [] m') (fun q=>q.2-q.1) (0,d.length)
    YC ⟨YA,YA,(fun j _ h=>absurd h YA),(fun j h h'=>absurd h' J6),Ext.refl _ _⟩ ?_)
   rintro ⟨lo,hG⟩ m3 ⟨q1,q2,q3,q4,eN⟩;simp only at q1 q2 q3 q4;have zf:Ext m [] m3:=jr.1.trans eN YA;have fG:ek m S m3:=⟨zf,jr.2⟩;refine YG ?_;refine RL.A1 aa rfl ?_;refine RL.N1 (YE ?_);refine WP.cond rfl (fun Qd=>?_) (fun Qd=>?_)
   ·replace Qd:lo<hG:=by have:=xS Qd;simp only at this;omega
    have Tx:∀m',Ext m3 [] m'→∀j u,(rC x)[j]?=some u→m'.cell? ((ad.add (i*3)).add j)=some u:=fun m' hE=>by
     obtain ⟨ad',h1,h2⟩:=(h.bQ (zf.trans hE YA)).cell i hc
     injection h1 with h1
     subst h1;rw [gi]at h2;exact h2
    obtain ⟨mK,IC⟩:=zP ((lo+hG)/2);have CF:mK<d.length:=by omega
    obtain ⟨ad3,Wi,_⟩:=(RY.bQ eN).cell mK CF;subst Wi;have Zt:∀m',Ext m3 [] m'→∀j u,(rC d[mK])[j]?=some u→m'.cell? ((ad3.add (mK*3)).add j)=some u:=fun m' hE=>by
     obtain ⟨ad',h1,h2⟩:=(RY.bQ (eN.trans hE YA)).cell mK CF
     injection h1 with h1
     subst h1;exact h2
    refine ab7 ?_;refine ad0 ?_;refine RL.eqv (v':=.int .i64 ((lo+hG:Nat):Int)) (xZ _ (by rw [ag _ J9 J9];simp)) ?_;refine ac6 ?_;refine RL.eqv (v':=.int .i64 (mK:Int)) (xZ _ (by show IntKind.i64.wrap (Int.tdiv ((lo+hG:Nat):Int) ((2:Nat):Int))=_;rw [←Int.ofNat_tdiv,ag _ J9 J9,IC])) ?_;refine ab3 ?_;refine RL.N1 (QN.N1 ?_);refine YG ?_;refine WP.dI (fun m'=>Ext m3 [] m') [] J7 (Ext.refl _ _) JJ (fun hQ=>?_);refine ae5 ?_;refine RH.aJ aa hQ 3 (rC x) (fun m' bm=>Tx m' bm) rfl J7 rfl rfl rfl rfl ?_;refine RH.pure aa hQ [4,5] J7 rfl ?_;refine RH.indexAddr aa hQ 6 (k:=mK) rfl J7 rfl rfl rfl rfl rfl rfl rfl CF rfl ?_;refine RH.aJ aa hQ 7 (rC d[mK]) (fun m' bm=>Zt m' bm) rfl J7 rfl rfl rfl rfl ?_;refine RH.only 8 rfl J7 (fun _=>?_);refine zM (Cr m3 x d[mK]) ?_;rintro _ m4 ⟨rfl,eQ⟩;refine ⟨_,rfl,RL.N1 (RH.cont eQ (RH.done J7 (fun _=>?_)))⟩;refine YJ ?_;refine WP.cond rfl (fun aM=>?_) (fun aM=>?_)
    ·replace aM:x.lt d[mK]=true:=aM
     refine ai1 ?_;refine RL.N1 ?_;refine YJ ?_;refine QN.round (lo,mK) YC ⟨by show lo≤mK;omega,by show mK≤_;omega,q3,(fun j hj hm=>pG aM (sX hd hj hm)),eN.trans eQ YA⟩ (by show mK-lo<hG-lo;omega)
    ·replace aM:¬x.lt d[mK]=true:=by simpa using aM
     refine YG ?_;refine ab8 ?_;refine RL.eqv (v':=.int .i64 ((mK+1:Nat):Int)) (xZ _ Jb) ?_;refine ab3 ?_;refine RL.N1 ?_;refine YJ ?_;refine QN.round (mK+1,hG) YC ⟨by show mK+1≤hG;omega,q2,(fun j hj hm=>not_lt_of_le aM (sX hd CF (by show j≤mK;have:j<mK+1:=hm;omega))),q4,eN.trans eQ YA⟩ (by show hG-(mK+1)<hG-lo;omega)
   ·replace Qd:lo=hG:=by have:=vX Qd;simp only at this;omega
    subst Qd;have km:=gJ.ext eN YA;refine WP.exit (YD ?_);refine YG ?_;refine RL.pure aa 2 rfl ?_;refine RL.dZ aa [.tmp 46] km (us:=[rV ⟨0,0,0⟩]) (rC ⟨0,0,0⟩) rfl rfl rfl rfl rfl rfl rfl rfl rfl Jt Jw (gI _) Jy Jn ?_;intro v4 m4 S4 gl eQ xx;refine ⟨_,rfl,?_⟩;have lX:ek m S4 m4:=⟨fG.1.trans eQ (fun k hk=>.inr (fG.ge k hk)),fG.2.trans xx fG.1.size⟩;obtain ⟨A4,c4,rfl,_⟩:=gl.shape;refine RL.A1 aa rfl ?_;refine RL.N1 (YE ?_);refine RL.pure aa 3 rfl ?_;refine RL.eqv (v':=.int .i64 (d.length:Int)) (xZ _ JY) ?_;refine RL.A1 aa rfl ?_;refine RL.N1 (YE ?_);refine (WP.loop (X:=Nat×aG) (fun q=>[(0,.slice (some ad) l.length c),(3,.slice A4 (d.length+1) c4),(4,.int .i64 i),(5,.int .i64 lo),(8,.int .i64 q.1)])
     (fun q m'=>lo≤q.1∧q.1≤d.length∧Ev.Own m' S4 167 3 (.slice A4 (d.length+1) c4) (d.length+1) ((d.take q.1++[q.2]++d.drop q.1).flatMap rC)∧ek m S4 m') (fun q=>q.1) (d.length,⟨0,0,0⟩)
     YC ⟨q2,yP _,by simpa using gl,lX⟩ ?_)
    rintro ⟨k,w⟩ m5 ⟨k1,k2,gZ,iS⟩;simp only at k1 k2 gZ;refine aa8 ?_;refine WP.cond rfl (fun mr=>?_) (fun mr=>?_)
    ·replace mr:lo<k:=by have:=xS mr;simp only at this;omega
     obtain ⟨q,rfl⟩:∃q,k=q+1:=⟨k-1,J9⟩;have Wp:Rs m5 [] (.slice A4 (d.length+1) c4) (d.take (q+1)++[w]++d.drop (q+1)):=gZ.sl YA;obtain ⟨ad5,rfl,hy⟩:=Wp.cell q J6;rw [Kl d w q J9]at hy;obtain ⟨g,cap,cur,eY,yf,rfl,sV,eG⟩:=gZ.yo (j:=(q+1)*3) (k:=3) J9 J9
     injection eY with eY sJ
     injection eY with eY
     subst eY;refine ai6 ?_;refine RL.indexAddr (k:=q) aa rfl rfl rfl rfl rfl rfl rfl J9 rfl ?_;refine RL.aJ aa (rC d[q]) rfl rfl rfl hy rfl ?_;refine RL.indexAddr (k:=q+1) aa rfl rfl rfl rfl rfl rfl rfl J9 rfl ?_;refine RL.eqv (v':=.pointer (some ⟨g,(q+1)*3,none⟩)) (xZ (fun q=>Value.pointer (some q)) (by rw [av];show(⟨g,0+(q+1)*3,none⟩:Addr)=_;rw [zU])) ?_;refine RL.bF aa (b:=g) (i:=(q+1)*3) (vs:=rC d[q]) yf rfl rfl rfl rfl rfl sV (gI _) rfl ?_;intro m6 jJ;have iz:=eG m6 (rC d[q]) rfl jJ;rw [Cv,za d w (q+1) k2,zn d w (q+1) k2,EB d q J9]at iz;refine RL.N1 (YE ?_);refine RL.pure aa 2 rfl ?_;refine RL.eqv (v':=.int .i64 (q:Int)) (xZ _ JY) ?_;refine RL.A1 aa rfl ?_;refine RL.N1 (QN.round (q,d[q]) YC ⟨by show lo≤q;omega,by show q≤_;omega,iz,⟨iS.1.trans jJ.ext (fun k hk=>.inr (iS.ge k hk)),iS.2⟩⟩ (by show q<q+1;omega))
    ·replace mr:k=lo:=by have:=vX mr;simp only at this;omega
     subst mr;obtain ⟨g,cap,cur,eY,yf,rfl,sV,eG⟩:=gZ.yo (j:=k*3) (k:=3) J9 J9
     injection eY with eY sJ
     subst eY;have TJ:∀j u,(rC x)[j]?=some u→m5.cell? ((ad.add (i*3)).add j)=some u:=by
      obtain ⟨ad',h1,h2⟩:=(h.bQ iS.1).cell i hc
      injection h1 with h1
      subst h1;rw [gi]at h2;exact h2
     refine ac2 ?_;refine RL.pure aa 4 rfl ?_;refine ab0 ?_;refine RL.aJ aa (rC x) rfl rfl rfl TJ rfl ?_;refine RL.indexAddr (k:=k) aa rfl rfl rfl rfl rfl rfl rfl J9 rfl ?_;refine RL.eqv (v':=.pointer (some ⟨g,k*3,none⟩)) (xZ (fun q=>Value.pointer (some q)) (by rw [av];show(⟨g,0+k*3,none⟩:Addr)=_;rw [zU])) ?_;refine RL.bF aa (b:=g) (i:=k*3) (vs:=rC x) yf rfl rfl rfl rfl rfl sV (gI _) rfl ?_;intro m6 jJ;have iz:=eG m6 (rC x) rfl jJ;rw [Cv,za d w k k2,zn d w k k2]at iz;have kN:(d.take k++x::d.drop k).length=d.length+1:=by simp;omega
     refine RL.N1 (YE ?_);refine ag8 ?_;refine RL.N1 (QN.round (i+1,.slice (some ⟨g,0,none⟩) (d.length+1) c4,[g],d.take k++x::d.drop k) YC ⟨by show i+1≤_;omega,BQ hd q3 q4,?_,?_,⟨iS.1.trans jJ.ext (fun k hk=>.inr (iS.ge k hk)),iS.2⟩⟩ Jj)
     ·show(d.take k++x::d.drop k).Perm ((l.take (i+1)).filter aG.right);rw [bo];exact (Hd x d k).trans (hp.append_right [x])
     ·show Ev.Own m6 [g] 167 3 _ (d.take k++x::d.drop k).length _;rw [kN]
      simpa using iz
 ·replace hc:i=l.length:=by have:=vX hc;simp only at this;omega
  subst hc;rw [wF]at hp;have PW:d.length≤l.length:=by
   rw [hp.length_eq];exact xD _ _
  have jW:=nK l d hp hd;refine WP.exit (YD ?_);refine YG ?_;refine RL.A1 aa rfl ?_;refine RL.N1 (YE ?_);refine RL.A1 aa rfl ?_;refine RL.N1 (YE ?_);have Iy:Rs m1 [] (.slice Au d.length cu) d:=hO.sl YA;refine (WP.loop (X:=Nat×Value×List Nat) (fun x=>[(3,.slice Au d.length cu),(9,x.2.1),(10,.int .i64 x.1)])
   (fun x m'=>x.1≤d.length∧Ev.Own m' x.2.2 167 3 x.2.1 ((d.take x.1).foldl mg []).length (((d.take x.1).foldl mg []).reverse.flatMap rC)∧ek m1 x.2.2 m') (fun x=>d.length-x.1) (0,.slice none 0 0,[])
   YC ⟨YA,Own.empty _ _ _ _,Ext.refl _ _,bp.nil _ _⟩ ?_)
  rintro ⟨i,u,S5⟩ m5 ⟨hi,gZ,iS⟩;simp only at hi gZ iS;obtain ⟨A5,c5,rfl,W4⟩:=gZ.shape;refine aa8 ?_;refine WP.cond rfl (fun hc=>?_) (fun hc=>?_)
  ·replace hc:i<d.length:=by have:=xS hc;simp only at this;omega
   obtain ⟨ad,rfl,hx⟩:=(Iy.bQ iS.1).cell i hc;have dF:(d.take (i+1)).foldl mg []=mg ((d.take i).foldl mg []) d[i]:=by rw [vN hc,vO];rfl
   have Nv:((d.take i).foldl mg []).length≤l.length:=by
    have h9:=gA (d.take i) [];have h8:=List.length_take_le i d;simp only [xE]at h9;omega
   generalize (d.take i).foldl mg []=r at gZ dF Nv;obtain ⟨x,gi⟩:∃x,d[i]=x:=⟨_,rfl⟩;rw [gi]at hx dF;refine ab7 ?_;refine aa9 ?_;refine WP.cut (X:=Bool) (fun b=>[(3,.slice (some ad) d.length cu),(9,.slice A5 r.length c5),(10,.int .i64 i),(11,.int .i64 r.length),(109,.bool b)])
    (fun b m'=>m'=m5∧(b=true→∃y r',r=y::r'∧mg r x={y with t:=max y.t x.t}::r')∧(b=false→mg r x=x::r)) ?_ ?_
   ·refine WP.dI (fun m'=>m'=m5) [] J7 rfl JJ (fun hQ=>?_);refine RH.pure aa hQ [0,1] J7 rfl ?_;rcases r with _|⟨y,r'⟩
    ·refine RH.eqv (v':=.bool false) rfl ?_;refine RH.pure aa hQ [2,3,4,5,6,7,8,9,10,11,12,13,14,15,16,17,18,19,20,21,22,23,24,25,26,27,28,29] J7 rfl ?_;refine RH.done J7 (fun _=>?_);exact QN.ar false YC ⟨rfl,(fun h=>by cases h),(fun _=>rfl)⟩
    ·have iD:(y::r').length=r'.length+1:=rfl;have BA:IntKind.i64.wrap (((y::r').length:Int)-1)=r'.length:=by rw [iD,ag _ J9 J9];omega
     have KM:Rs m5 [] (.slice A5 (y::r').length c5) (r'.reverse++[y]):=by
      have:=gZ.sl (M:=[]) YA;rw [tB]at this;exact this
     obtain ⟨ad5,rfl,hy⟩:=KM.cell r'.length YA;have I7:(r'.reverse++[y])[r'.length]'(by simp)=y:=by simp
     rw [I7]at hy;refine RH.eqv (v':=.bool true) (xZ _ (zW (by rw [iD];omega))) ?_;refine RH.pure aa hQ [2,3,4,5] J7 rfl ?_;refine RH.eqv (v':=.int .i64 (r'.length:Int)) (xZ _ BA) ?_;refine RH.indexAddr aa hQ 6 (k:=r'.length) rfl J7 rfl rfl rfl rfl rfl rfl rfl J9 rfl ?_;refine RH.pure aa hQ [7] J7 rfl ?_;refine RH.load aa hQ 8 (fun m' bm=>by rw [bm];exact hy 0 _ rfl) rfl J7 rfl rfl rfl rfl ?_;refine RH.pure aa hQ [9,10] J7 rfl ?_;refine RH.indexAddr aa hQ 11 (k:=i) rfl J7 rfl rfl rfl rfl rfl rfl rfl hc rfl ?_;refine RH.pure aa hQ [12] J7 rfl ?_;refine RH.load aa hQ 13 (fun m' bm=>by rw [bm];exact hx 0 _ rfl) rfl J7 rfl rfl rfl rfl ?_;refine RH.pure aa hQ [14] J7 rfl ?_
     by_cases h1:y.c=x.c
     ·refine RH.eqv (v':=.bool true) (xZ _ Ji) ?_;refine RH.pure aa hQ [15,16,17,18] J7 rfl ?_;refine RH.indexAddr aa hQ 19 (k:=i) rfl J7 rfl rfl rfl rfl rfl rfl rfl hc rfl ?_;refine RH.pure aa hQ [20] J7 rfl ?_;refine RH.load aa hQ 21 (fun m' bm=>by rw [bm];exact hx 1 _ rfl) rfl J7 rfl rfl rfl rfl ?_;refine RH.pure aa hQ [22,23,24] J7 rfl ?_;refine RH.eqv (v':=.int .i64 (r'.length:Int)) (xZ _ BA) ?_;refine RH.indexAddr aa hQ 25 (k:=r'.length) rfl J7 rfl rfl rfl rfl rfl rfl rfl J9 rfl ?_;refine RH.pure aa hQ [26] J7 rfl ?_;refine RH.load aa hQ 27 (fun m' bm=>by rw [bm];exact hy 2 _ rfl) rfl J7 rfl rfl rfl rfl ?_;refine RH.pure aa hQ [28,29] J7 rfl ?_;refine RH.done J7 (fun _=>?_);refine QN.ar (decide (x.f≤y.t)) (Sub.C1 rfl (Sub.C1 rfl (Sub.C1 rfl (Sub.C1 rfl (Sub.C1 ?_ Sub.nil))))) ⟨rfl,(fun h=>⟨y,r',rfl,?_⟩),(fun h=>?_)⟩
      ·show some (Value.bool (decide ((x.f:Int)≤(y.t:Int))))=_;rw [iF x.f y.t y.t rfl]
      ·rw [ig,yS ⟨h1,xS h⟩]
      ·rw [ig,zX (fun hh=>vX h hh.2)]
     ·refine RH.eqv (v':=.bool false) (xZ _ Jg) ?_;refine RH.pure aa hQ [15,16,17,18,19,20,21,22,23,24,25,26,27,28,29] J7 rfl ?_;refine RH.done J7 (fun _=>?_);exact QN.ar false YC ⟨rfl,(fun h=>by cases h),(fun _=>by rw [ig,zX (fun hh=>h1 hh.1)])⟩
   ·rintro b mc ⟨rfl,hbt,hbf⟩;refine WP.cond rfl (fun hb=>?_) (fun hb=>?_)
    ·obtain ⟨y,r',rfl,Vu⟩:=hbt hb;have iD:(y::r').length=r'.length+1:=rfl;have BA:IntKind.i64.wrap (((y::r').length:Int)-1)=r'.length:=by rw [iD,ag _ J9 J9];omega
     have KM:Rs mc [] (.slice A5 (y::r').length c5) (r'.reverse++[y]):=by
      have:=gZ.sl (M:=[]) YA;rw [tB]at this;exact this
     obtain ⟨ad5,rfl,hy⟩:=KM.cell r'.length YA;have I7:(r'.reverse++[y])[r'.length]'(by simp)=y:=by simp
     rw [I7]at hy;have xu:=gZ;rw [tB]at xu;obtain ⟨g,cap,cur,mS,Is,rfl,G0,eG⟩:=xu.Ci (j:=r'.length*3+2) (by rw [iD];omega)
     injection mS with mS Fk
     injection mS with mS
     subst mS;rw [Vu]at dF;refine WP.dI (fun m'=>m'=mc) [17] J7 rfl JJ (fun hQ=>?_);refine RH.pure aa hQ [0,1,2] J7 rfl ?_;refine RH.eqv (v':=.int .i64 (r'.length:Int)) (xZ _ BA) ?_;refine RH.pure aa hQ [3,4,5] J7 rfl ?_;refine RH.eqv (v':=.int .i64 (r'.length:Int)) (xZ _ BA) ?_;refine RH.indexAddr aa hQ 6 (k:=r'.length) rfl J7 rfl rfl rfl rfl rfl rfl rfl J9 rfl ?_;refine RH.pure aa hQ [7] J7 rfl ?_;refine RH.load aa hQ 8 (fun m' bm=>by rw [bm];exact hy 2 _ rfl) rfl J7 rfl rfl rfl rfl ?_;refine RH.pure aa hQ [9,10] J7 rfl ?_;refine RH.indexAddr aa hQ 11 (k:=i) rfl J7 rfl rfl rfl rfl rfl rfl rfl hc rfl ?_;refine RH.pure aa hQ [12] J7 rfl ?_;refine RH.load aa hQ 13 (fun m' bm=>by rw [bm];exact hx 2 _ rfl) rfl J7 rfl rfl rfl rfl ?_;refine RH.pure aa hQ [14] J7 rfl ?_;refine RH.eqv (v':=.int .u64 (max y.t x.t:Nat)) (xZ _ (by show(if _ then _ else _:Int)=_;split<;>omega)) ?_;refine RH.indexAddr aa hQ 15 (k:=r'.length) rfl J7 rfl rfl rfl rfl rfl rfl rfl J9 rfl ?_;refine RH.eqv (v':=.pointer (some ⟨g,r'.length*3,none⟩)) (xZ (fun q=>Value.pointer (some q)) (by rw [av];show(⟨g,0+r'.length*3,none⟩:Addr)=_;rw [zU])) ?_;refine RH.pure aa hQ [16] J7 rfl ?_;refine RH.only 17 rfl J7 (fun _=>?_);refine RL.store aa Is (i:=r'.length*3+2) (v:=.int .u64 (max y.t x.t:Nat)) G0 rfl rfl rfl rfl rfl rfl ?_;intro m9 yb;have zb:=eG m9 _ yb;rw [show r'.length*3+2=r'.reverse.length*3+2 by rw [xC],zk,←tB]at zb;have pt:ek m1 [g] m9:=⟨iS.1.trans yb.ext (fun k hk=>.inr (iS.ge k hk)),iS.2⟩;refine RL.N1 (RF.last J7 ?_);refine YJ ?_;refine YG ?_;refine RL.pure aa 2 rfl ?_;refine RL.eqv (v':=.int .i64 ((i+1:Nat):Int)) (xZ _ Jb) ?_;refine RL.A1 aa rfl ?_;refine RL.N1 (QN.round (i+1,.slice (some ⟨g,0,none⟩) (y::r').length c5,[g]) YC ⟨by show i+1≤_;omega,?_,pt⟩ Jj);show Ev.Own m9 [g] 167 3 _ ((d.take (i+1)).foldl mg []).length (((d.take (i+1)).foldl mg []).reverse.flatMap rC);rw [dF];exact zb
    ·rw [hbf hb]at dF;refine YG ?_;refine ad0 ?_;refine ab0 ?_;refine RL.aJ aa (rC x) rfl rfl rfl hx rfl ?_;refine RL.dZ aa [.tmp 131] gZ (us:=[rV x]) (rC x) rfl rfl rfl rfl rfl rfl rfl rfl rfl Jt Jw (gI x) Jy Jn ?_;intro v8 m8 S8 xu BC OH;refine ai2 ?_;refine ag8 ?_;have Fc:ek m1 S8 m8:=⟨iS.1.trans BC (fun k hk=>.inr (iS.ge k hk)),iS.2.trans OH iS.1.size⟩;refine RL.N1 (QN.round (i+1,v8,S8) YC ⟨by show i+1≤_;omega,?_,Fc⟩ Jj);show Ev.Own m8 S8 167 3 _ ((d.take (i+1)).foldl mg []).length (((d.take (i+1)).foldl mg []).reverse.flatMap rC);rw [dF,tB,←jd];exact xu
  ·replace hc:i=d.length:=by have:=vX hc;simp only at this;omega
   subst hc;rw [wF,jW]at gZ;have x5:(d.foldl mg []).length=(clean l).length:=by rw [←jW,xC]
   rw [x5]at gZ;refine af3 ?_;refine QN.aj rfl rfl ⟨_,rfl,S5,?_,hN.1.trans iS.1 YA,iS.2.trans' hN.1⟩;show Ev.Own m5 S5 167 3 (.slice A5 ((d.take d.length).foldl mg []).length c5) _ _;rw [wF,x5];exact gZ
def rH(l:List aG):Nat:=(l.map fun x=>x.t-x.f).sum
theorem uz:∀(l:List aG),(∀x∈l,x.right=true)→rH l≤l.length*9007199254740992
 |[],_=>by simp [rH]
 |x::l,h=>by
  have:=uz l (fun y hy=>h y (zO _ hy));have hr:=bL.1 (h x (zS ..));simp only [rH,xK,List.sum_cons,yF]at*;omega
theorem HK(m:World)(v:Value)(l:List aG)(h:Rs m [] v l)(hl:l.length<1000000000)(id:aL):dg Tryz.prog 39 [v,iV id] m fun r m'=>r=.bool (hasB l id)∧Ext m [] m':=by
 obtain ⟨A,c,rfl,_,_⟩:=h.shape;rw [zt];refine aP.zA Tryz.func39 ?_;refine YG ?_;refine RL.box rfl rfl (fun b m1 hb hC=>⟨_,rfl,?_⟩);have yw:bw m1 b 30 (iC id):=hC.here;have dd:Ext m [] m1:=hC.new J9;clear hC;refine RL.A1 aa rfl ?_;refine RL.N1 (YE ?_);refine RL.A1 aa rfl ?_;refine RL.N1 (YE ?_);refine (WP.loop (X:=Nat) (fun i=>[(0,.slice A l.length c),(3,.pointer (some ⟨b,0,none⟩)),(5,.int .i64 i)])
  (fun i m'=>i≤l.length∧(l.take i).any (qJ id)=false∧Ext m1 [] m') (fun i=>l.length-i) 0
  YC ⟨YA,YA,Ext.refl _ _⟩ ?_)
 rintro i m2 ⟨hi,ht,bM⟩;refine aa8 ?_;refine WP.cond rfl (fun hc=>?_) (fun hc=>?_)
 ·replace hc:i<l.length:=by have:=xS hc;omega
  have pX:=yw.ext bM YA;have gz:Ext m [] m2:=dd.trans bM YA;obtain ⟨ad,rfl,_⟩:=(h.bQ gz).cell i hc;obtain ⟨x,gi⟩:∃x,l[i]=x:=⟨_,rfl⟩;have hx:∀m',Ext m2 [] m'→∀j u,(rC x)[j]?=some u→m'.cell? ((ad.add (i*3)).add j)=some u:=fun m' hE=>by
   obtain ⟨ad',h1,h2⟩:=(h.bQ (gz.trans hE YA)).cell i hc
   injection h1 with h1
   subst h1;rw [gi]at h2;exact h2
  have hI:∀m',Ext m2 [] m'→bw m' b 30 (iC id):=fun m' hE=>pX.ext hE YA
  have dF:(l.take (i+1)).any (qJ id)=qJ id x:=by
   rw [vN hc,List.any_append,ht,gi];simp
  refine WP.skip (YJ ?_);refine WP.S1 ?_;refine WP.B1 ?_;refine WP.cut (X:=Bool) (fun q=>[(0,.slice (some ad) l.length c),(3,.pointer (some ⟨b,0,none⟩)),(5,.int .i64 i),(46,.bool q)]) (fun q m'=>q=qJ id x∧Ext m2 [] m') ?_ ?_
  ·refine WP.dI (fun m'=>Ext m2 [] m') [] J7 (Ext.refl _ _) JJ (fun hQ=>?_);refine ae5 ?_;refine RH.aJ aa hQ 3 (rC x) (fun m' bm=>hx m' bm) rfl J7 rfl rfl rfl rfl ?_;refine RH.only 4 rfl J7 (fun _=>?_);refine zM (kH m2 x) ?_;rintro _ m3 ⟨rfl,eN⟩;refine ⟨_,rfl,RL.N1 (RH.cont eN ?_)⟩
   by_cases h1:x.right=true
   ·refine RH.eqv (v':=.bool true) (xZ _ h1) ?_;refine RH.pure aa hQ [5,6,7] J7 rfl ?_;refine ah1 ?_;refine RH.load aa hQ 10 (fun m' bm=>hx m' bm 0 _ rfl) rfl J7 rfl rfl rfl rfl ?_;refine RH.pure aa hQ [11] J7 rfl ?_;refine RH.load aa hQ 12 (fun m' bm=>(hI m' bm).cell 0 rfl) rfl J7 rfl rfl rfl rfl ?_;refine RH.pure aa hQ [13] J7 rfl ?_
    by_cases h2:x.c=id.c
    ·refine RH.eqv (v':=.bool true) (xZ _ Jh) ?_;refine RH.pure aa hQ [14,15,16,17] J7 rfl ?_;refine RH.indexAddr aa hQ 18 (k:=i) rfl J7 rfl rfl rfl rfl rfl rfl rfl hc rfl ?_;refine RH.pure aa hQ [19] J7 rfl ?_;refine RH.load aa hQ 20 (fun m' bm=>hx m' bm 1 _ rfl) rfl J7 rfl rfl rfl rfl ?_;refine RH.pure aa hQ [21] J7 rfl ?_;refine RH.load aa hQ 22 (fun m' bm=>(hI m' bm).cell 1 rfl) rfl J7 rfl rfl rfl rfl ?_;refine RH.pure aa hQ [23] J7 rfl ?_
     by_cases h3:x.f≤id.k
     ·refine RH.eqv (v':=.bool true) (xZ _ JV) ?_;refine RH.pure aa hQ [24,25,26] J7 rfl ?_;refine RH.load aa hQ 27 (fun m' bm=>(hI m' bm).cell 1 rfl) rfl J7 rfl rfl rfl rfl ?_;refine RH.pure aa hQ [28,29] J7 rfl ?_;refine RH.indexAddr aa hQ 30 (k:=i) rfl J7 rfl rfl rfl rfl rfl rfl rfl hc rfl ?_;refine RH.pure aa hQ [31] J7 rfl ?_;refine RH.load aa hQ 32 (fun m' bm=>hx m' bm 2 _ rfl) rfl J7 rfl rfl rfl rfl ?_;refine RH.pure aa hQ [33,34] J7 rfl ?_;refine RH.done J7 (fun _=>?_);refine QN.ar (decide (id.k<x.t)) (Sub.C1 rfl (Sub.C1 rfl (Sub.C1 rfl (Sub.C1 ?_ Sub.nil)))) ⟨by simp [qJ,h1,h2,h3],eN⟩;show some (Value.bool (decide ((id.k:Int)<(x.t:Int))))=_;rw [sv]
     ·refine RH.eqv (v':=.bool false) (xZ _ JU) ?_;refine RH.pure aa hQ [24,25,26,27,28,29,30,31,32,33,34] J7 rfl ?_;refine RH.done J7 (fun _=>?_);exact QN.ar false YC ⟨by simp [qJ,h1,h2,h3],eN⟩
    ·refine RH.eqv (v':=.bool false) (xZ _ Jf) ?_;refine RH.pure aa hQ [14,15,16,17,18,19,20,21,22,23,24,25,26,27,28,29,30,31,32,33,34] J7 rfl ?_;refine RH.done J7 (fun _=>?_);exact QN.ar false YC ⟨by simp [qJ,h1,h2],eN⟩
   ·refine RH.eqv (v':=.bool false) (xZ _ (vR _▸h1)) ?_;refine RH.pure aa hQ [5,6,7,8,9,10,11,12,13,14,15,16,17,18,19,20,21,22,23,24,25,26,27,28,29,30,31,32,33,34] J7 rfl ?_;refine RH.done J7 (fun _=>?_);exact QN.ar false YC ⟨by simp [qJ,h1],eN⟩
  ·rintro q m3 ⟨hq,eN⟩;refine WP.cond rfl (fun hp=>?_) (fun hp=>?_)
   ·rw [hp]at hq;refine ab5 ?_;refine QN.aj rfl rfl ⟨_,rfl,xZ _ ?_,gz.trans eN YA⟩;exact (wU.2 ⟨l[i],vF _,by rw [gi,←hq]⟩).symm
   ·rw [hp]at hq;refine ab7 ?_;refine ag8 ?_;exact RL.N1 (QN.round (i+1) YC ⟨J9,by rw [dF,←hq],bM.trans eN YA⟩ J9)
 ·replace hc:i=l.length:=by have:=vX hc;omega
  subst hc;rw [wF]at ht;refine af3 ?_;exact QN.aj rfl rfl ⟨_,rfl,by rw [ht],dd.trans bM YA⟩
open Go.Mrg Go.Sort
def AI(m:World)(r:Value)(l:List bB)(m':World):Prop:=∃S',Ev.Own m' S' 193 2 r l.length (l.flatMap cC)∧ek m S' m'
theorem AI.from_{m0 m m':World}{r:Value}{l:List bB}(h:AI m r l m')(hE:Ext m0 [] m):AI m0 r l m':=by
 obtain ⟨S,h1,h2,h3⟩:=h;exact ⟨S,h1,hE.trans h2 YA,h3.trans' hE⟩
theorem Vv(a b:Nat):Value.int .u64 (if(b:Int)<(a:Int)then(b:Int)else(a:Int))=.int .u64 (min a b:Nat):=xZ _ (by split<;>omega)
theorem WE(a b:Nat):Value.int .u64 (if(b:Int)>(a:Int)then(b:Int)else(a:Int))=.int .u64 (max a b:Nat):=xZ _ (by split<;>omega)
theorem Nn(a b:Nat):decide ((a:Int)≤(b:Int))=decide (a≤b):=by rw [vQ];omega
theorem Vs(a b:Nat):decide ((a:Int)≥(b:Int))=decide (b≤a):=by rw [vQ];omega
def Made(m:World)(r:Value)(l:List aG)(m':World):Prop:=∃S',Ev.Own m' S' 167 3 r l.length (l.flatMap rC)∧ek m S' m'
theorem KI(m:World)(v u:Value)(a b:List aG)(h:Rs m [] v a)(h':Rs m [] u b)(Qj:a.length<500000000)(U7:b.length<500000000)(hl:a.length*(b.length+1)<100000000):
  dg Tryz.prog 123 [v,u] m fun r m'=>Made m r (minus a b) m':=by
 refine aP.zA Tryz.func123 ?_;refine af5 ?_;refine ab3 ?_;refine zM (ly m u b h' U7) ?_;rintro v1 m1 ⟨S1,Fa,KS⟩;refine ai2 ?_;refine ab3 ?_;refine zM (ly m1 v a (h.bQ KS.1) Qj) ?_;rintro v2 m2 ⟨S2,gJ,jr⟩;refine aa1 ?_;have I6:=Fa.ext jr.1 YA;have sk:Ext m [] m2:=KS.1.trans jr.1 YA;have Tj:=eM a;have Hh:=eM b;have CF:(clean a).length*((clean b).length+1)≤a.length*(b.length+1):=Nat.mul_le_mul Tj (tJ Hh);have Qn:minus a b=clean ((clean a).foldl (fun out x=>gH (clean b) x out) []):=rfl;rw [Qn];generalize clean a=A at gJ Tj CF ⊢;generalize clean b=B at I6 Hh CF ⊢;clear Qn Fa;obtain ⟨A2,c2,rfl,_⟩:=gJ.shape;obtain ⟨A1,c1,rfl,_⟩:=I6.shape;have Yn:Rs m2 [] (.slice A2 A.length c2) A:=gJ.sl YA;have Ye:Rs m2 [] (.slice A1 B.length c1) B:=I6.sl YA;clear gJ I6 KS jr;refine RL.A1 aa rfl ?_;refine RL.N1 (YE ?_);refine (WP.loop (X:=Nat×Value×List Nat) (fun x=>[(13,.slice A2 A.length c2),(14,.int .i64 A.length),(1,.slice A1 B.length c1),(5,x.2.1),(15,.int .i64 x.1)])
  (fun x m'=>x.1≤A.length∧Ev.Own m' x.2.2 167 3 x.2.1 ((A.take x.1).foldl (fun out x=>gH B x out) []).length (((A.take x.1).foldl (fun out x=>gH B x out) []).flatMap rC)∧ek m2 x.2.2 m') (fun x=>A.length-x.1) (0,.slice none 0 0,[])
  YC ⟨YA,Own.empty _ _ _ _,Ext.refl _ _,bp.nil _ _⟩ ?_)
 rintro ⟨i,w,S⟩ m3 ⟨hi,km,fG⟩;simp only at hi km fG;refine aa8 ?_;refine WP.cond rfl (fun hc=>?_) (fun hc=>?_)
 ·replace hc:i<A.length:=by have:=xS hc;simp only at this;omega
  obtain ⟨ad,rfl,hx⟩:=(Yn.bQ fG.1).cell i hc;have dF:(A.take (i+1)).foldl (fun out x=>gH B x out) []=gH B A[i] ((A.take i).foldl (fun out x=>gH B x out) []):=by rw [vN hc,vO];rfl
  have Ms:((A.take i).foldl (fun out x=>gH B x out) []).length≤i*(B.length+1):=by
   have h9:=mj (A.take i) B [];rw [yA,zR hi]at h9
   simpa using h9
  have yx:i*(B.length+1)+(B.length+1)≤A.length*(B.length+1):=by
   have h9:(i+1)*(B.length+1)≤A.length*(B.length+1):=wP _ hc;rw [xQ]at h9;exact h9
  generalize (A.take i).foldl (fun out x=>gH B x out) []=out at km dF Ms;obtain ⟨x,gi⟩:∃x,A[i]=x:=⟨_,rfl⟩;rw [gi]at hx dF;refine ab7 ?_;refine ab0 ?_;refine RL.aJ aa (rC x) rfl rfl rfl hx rfl ?_;refine RL.alloc aa rfl rfl (fun b7 m4 Ro jf=>⟨_,rfl,?_⟩);refine RL.bF aa (b:=b7) (i:=0) (vs:=rC x) (cs:=[.int .u64 0,.int .u64 0,.int .u64 0]) jf.fc rfl rfl rfl rfl rfl YA Jv rfl ?_;intro m5 ki;have ff:Ext m3 [] m5:=(jf.new J9).trans ki.ext (fun q hq=>.inr JZ);have yf:bw m5 b7 167 (rC x):=ki.fc;have gZ:=km.ext ff YA;have Xb:b7∉S:=fun hh=>by have:=km.lt _ hh;omega
  have h7m:m2.heap.size≤b7:=by have:=fG.1.size;omega
  have iS:ek m2 S m5:=⟨fG.1.trans ff YA,fG.2⟩;refine RL.N1 (YE ?_);refine RL.A1 aa rfl ?_;refine RL.N1 (YE ?_);refine (WP.loop (X:=Nat×Value×List Nat) (fun x=>[(13,.slice (some ad) A.length c2),(14,.int .i64 A.length),(1,.slice A1 B.length c1),(15,.int .i64 i),(7,.pointer (some ⟨b7,0,none⟩)),(19,.slice A1 B.length c1),(20,.int .i64 B.length),(5,x.2.1),(21,.int .i64 x.1)])
   (fun q m'=>q.1≤B.length∧bw m' b7 167 (rC ((B.take q.1).foldl fj (x,out)).1)∧Ev.Own m' q.2.2 167 3 q.2.1 ((B.take q.1).foldl fj (x,out)).2.length (((B.take q.1).foldl fj (x,out)).2.flatMap rC)∧b7∉q.2.2∧ek m2 q.2.2 m') (fun x=>B.length-x.1) (0,w,S)
   YC ⟨YA,yf,gZ,Xb,iS⟩ ?_)
  rintro ⟨j,w6,S6⟩ m6 ⟨hj,Ki,iz,TY,IY⟩;simp only at hj Ki iz TY IY;have kN:((B.take j).foldl fj (x,out)).2.length≤out.length+j:=by
   have h9:=qu (B.take j) (x,out);rw [yA,zR hj]at h9;exact h9
  refine aa8 ?_;refine WP.cond rfl (fun KD=>?_) (fun KD=>?_)
  ·replace KD:j<B.length:=by have:=xS KD;simp only at this;omega
   obtain ⟨ae,rfl,hy⟩:=(Ye.bQ IY.1).cell j KD;obtain ⟨y,XK⟩:∃y,B[j]=y:=⟨_,rfl⟩;have gE:(B.take (j+1)).foldl fj (x,out)=fj ((B.take j).foldl fj (x,out)) y:=by rw [vN KD,vO,XK];rfl
   rw [XK]at hy;generalize (B.take j).foldl fj (x,out)=s at Ki iz kN gE;obtain ⟨x',o'⟩:=s;simp only at Ki iz kN;have Sy:fj (x',o') y=if x'.c≠y.c∨y.t≤x'.f∨x'.t≤y.f then(x',o')else({x' with f:=y.t},o'++[⟨x'.c,x'.f,y.f⟩]):=rfl
   refine ab7 ?_;refine RL.indexAddr (k:=j) aa rfl rfl rfl rfl rfl rfl rfl KD rfl ?_;refine RL.aJ aa (rC y) rfl rfl rfl hy rfl ?_;refine RL.alloc aa rfl rfl (fun b9 m7 Xu wx=>⟨_,rfl,?_⟩);refine RL.bF aa (b:=b9) (i:=0) (vs:=rC y) (cs:=[.int .u64 0,.int .u64 0,.int .u64 0]) wx.fc rfl rfl rfl rfl rfl YA Jv rfl ?_;intro m8 Qe;have BC:Ext m6 [] m8:=(wx.new J9).trans Qe.ext (fun q hq=>.inr (by have h9:q=b9:=J3;omega));have ME:bw m8 b9 167 (rC y):=Qe.fc;have su:=Ki.ext BC YA;have xu:=iz.ext BC YA;have Fc:ek m2 S6 m8:=⟨IY.1.trans BC YA,IY.2⟩;have l7:=Ki.lt;have Ze:Ext m2 [] m8:=Fc.1;refine RL.N1 (YJ ?_);refine WP.S1 ?_;refine WP.cut (X:=Bool) (fun q=>[(13,.slice (some ad) A.length c2),(14,.int .i64 A.length),(1,.slice (some ae) B.length c1),(15,.int .i64 i),(7,.pointer (some ⟨b7,0,none⟩)),(19,.slice (some ae) B.length c1),(20,.int .i64 B.length),(5,w6),(21,.int .i64 j),(9,.pointer (some ⟨b9,0,none⟩)),(43,.bool q)]) (fun q m'=>m'=m8∧q=decide (x'.c≠y.c∨y.t≤x'.f∨x'.t≤y.f)) ?_ ?_
   ·refine WP.R1 ?_
    repeat(first|refine RL.pure aa 1 rfl ?_|refine RL.load aa rfl rfl rfl (su.cell _ rfl) rfl ?_|refine RL.load aa rfl rfl rfl (ME.cell _ rfl) rfl ?_)
    by_cases h1:x'.c=y.c
    ·refine RL.eqv (v':=.bool false) (xZ _ (by rw [k8];exact zV (fun hh=>hh h1))) ?_
     repeat(first|refine RL.pure aa 1 rfl ?_|refine RL.load aa rfl rfl rfl (su.cell _ rfl) rfl ?_|refine RL.load aa rfl rfl rfl (ME.cell _ rfl) rfl ?_)
     by_cases h2:y.t≤x'.f
     ·refine RL.eqv (v':=.bool true) (xZ _ (by rw [Nn];exact zW h2)) ?_
      repeat(first|refine RL.pure aa 1 rfl ?_|refine RL.load aa rfl rfl rfl (su.cell _ rfl) rfl ?_|refine RL.load aa rfl rfl rfl (ME.cell _ rfl) rfl ?_)
      exact RL.N1 (QN.ar true (Sub.C1 rfl (Sub.C1 rfl (Sub.C1 rfl (Sub.C1 rfl (Sub.C1 rfl (Sub.C1 rfl (Sub.C1 rfl (Sub.C1 rfl (Sub.C1 rfl (Sub.C1 rfl (Sub.C1 rfl (Sub.nil)))))))))))) ⟨rfl,(zW (.inr (.inl h2))).symm⟩)
     ·refine RL.eqv (v':=.bool false) (xZ _ (by rw [Nn];exact zV h2)) ?_
      repeat(first|refine RL.pure aa 1 rfl ?_|refine RL.load aa rfl rfl rfl (su.cell _ rfl) rfl ?_|refine RL.load aa rfl rfl rfl (ME.cell _ rfl) rfl ?_)
      refine RL.N1 (QN.ar (decide (x'.t≤y.f)) (Sub.C1 rfl (Sub.C1 rfl (Sub.C1 rfl (Sub.C1 rfl (Sub.C1 rfl (Sub.C1 rfl (Sub.C1 rfl (Sub.C1 rfl (Sub.C1 rfl (Sub.C1 rfl (Sub.C1 ?_ Sub.nil))))))))))) ⟨rfl,vQ.2 ⟨fun hh=>.inr (.inr hh),fun hh=>?_⟩⟩)
      ·show some (Value.bool (decide ((y.f:Int)≥(x'.t:Int))))=_;rw [Vs]
      ·rcases hh with hh|hh|hh
       ·exact absurd h1 hh
       ·exact absurd hh h2
       ·exact hh
    ·refine RL.eqv (v':=.bool true) (xZ _ (by rw [k8];exact zW h1)) ?_
     repeat(first|refine RL.pure aa 1 rfl ?_|refine RL.load aa rfl rfl rfl (su.cell _ rfl) rfl ?_|refine RL.load aa rfl rfl rfl (ME.cell _ rfl) rfl ?_)
     exact RL.N1 (QN.ar true (Sub.C1 rfl (Sub.C1 rfl (Sub.C1 rfl (Sub.C1 rfl (Sub.C1 rfl (Sub.C1 rfl (Sub.C1 rfl (Sub.C1 rfl (Sub.C1 rfl (Sub.C1 rfl (Sub.C1 rfl (Sub.nil)))))))))))) ⟨rfl,(zW (.inl h1)).symm⟩)
   rintro q mc ⟨rfl,hq⟩;refine WP.cond rfl (fun hb=>?_) (fun hb=>?_)
   ·rw [hb]at hq;rw [Sy,yS (xS hq.symm)]at gE;refine ac2 ?_;refine ac6 ?_;refine af9 ?_;refine RL.N1 (QN.round (j+1,w6,S6) (Sub.C1 rfl (Sub.C1 rfl (Sub.C1 rfl (Sub.C1 rfl (Sub.C1 rfl (Sub.C1 rfl (Sub.C1 rfl (Sub.C1 rfl (Sub.C1 rfl (Sub.nil)))))))))) ⟨by show j+1≤_;omega,?_,?_,TY,Fc⟩ Jk)
    ·show bw _ b7 167 (rC ((B.take (j+1)).foldl fj (x,out)).1);rw [gE];exact su
    ·show Ev.Own _ S6 167 3 w6 ((B.take (j+1)).foldl fj (x,out)).2.length (((B.take (j+1)).foldl fj (x,out)).2.flatMap rC);rw [gE];exact xu
   ·rw [hb]at hq;rw [Sy,zX (vX hq.symm)]at gE;refine ab7 ?_
    repeat(first|refine RL.pure aa 1 rfl ?_|refine RL.load aa rfl rfl rfl (su.cell _ rfl) rfl ?_|refine RL.load aa rfl rfl rfl (ME.cell _ rfl) rfl ?_)
    refine RL.dZ aa [.tmp 51] xu (us:=[rV ⟨x'.c,x'.f,y.f⟩]) (rC ⟨x'.c,x'.f,y.f⟩) rfl rfl rfl rfl rfl rfl rfl rfl rfl Jt Jw (gI _) Jy Jn ?_;intro v10 m10 S10 Gm ym Bh;refine aa1 ?_;have l9:=ME.lt;have l7':=su.lt;have Zz:b9∉S6:=fun hh=>by have:=iz.lt _ hh;omega
    have SV:=su.ext ym TY;have UM:=ME.ext ym Zz;have Q9:b7∉S10:=Bh.ej TY l7';have Az:ek m2 S10 m10:=⟨Fc.1.trans ym (fun k hk=>.inr (Fc.ge k hk)),Fc.2.trans Bh Fc.1.size⟩;refine RL.A1 aa rfl ?_;refine RL.N1 (YE ?_)
    repeat(first|refine RL.pure aa 1 rfl ?_|refine RL.load aa rfl rfl rfl (SV.cell _ rfl) rfl ?_|refine RL.load aa rfl rfl rfl (UM.cell _ rfl) rfl ?_)
    refine RL.store aa SV (i:=1) (v:=.int .u64 y.t) (by simp [rC]) rfl rfl rfl rfl rfl rfl ?_;intro m11 Ce;have Ab:Ext m2 [] m11:=Az.1.trans Ce.ext (fun k hk=>.inr Ja);have Ua:=Gm.ext Ce.ext (fun k hk hh=>Q9 (by have h9:k=b7:=J4;exact h9▸hk));have EF:bw m11 b7 167 (rC {x' with f:=y.t}):=Ce.fc;refine RL.N1 (YE ?_);refine RL.pure aa 1 rfl ?_;refine RL.eqv (v':=.int .i64 ((j+1:Nat):Int)) (xZ _ Jb) ?_;refine RL.A1 aa rfl ?_;refine RL.N1 (QN.round (j+1,v10,S10) (Sub.C1 rfl (Sub.C1 rfl (Sub.C1 rfl (Sub.C1 rfl (Sub.C1 rfl (Sub.C1 rfl (Sub.C1 rfl (Sub.C1 rfl (Sub.C1 rfl (Sub.nil)))))))))) ⟨by show j+1≤_;omega,?_,?_,Q9,⟨Ab,Az.2⟩⟩ Jk)
    ·show bw _ b7 167 (rC ((B.take (j+1)).foldl fj (x,out)).1);rw [gE];exact EF
    ·show Ev.Own _ S10 167 3 v10 ((B.take (j+1)).foldl fj (x,out)).2.length (((B.take (j+1)).foldl fj (x,out)).2.flatMap rC);rw [gE,zY,←jd]
     simpa using Ua
  ·replace KD:j=B.length:=by have:=vX KD;simp only at this;omega
   subst KD;rw [wF]at Ki iz kN;have Wq:gH B x out=(B.foldl fj (x,out)).2++[(B.foldl fj (x,out)).1]:=rfl;generalize B.foldl fj (x,out)=s at Ki iz kN Wq;obtain ⟨x',o'⟩:=s;simp only at Ki iz kN Wq;refine WP.exit (YD ?_);refine YG ?_;refine RL.A1 aa rfl ?_;refine RL.aJ aa (rC x') rfl rfl rfl (fun j u hu=>by rw [av];exact Ki.cell _ J2) rfl ?_;refine RL.dZ aa [.tmp 59] iz (us:=[rV x']) (rC x') rfl rfl rfl rfl rfl rfl rfl rfl rfl Jt Jw (gI x') Jy Jn ?_;intro v8 m8 S8 xu BC OH;refine ⟨_,rfl,?_⟩;refine RL.A1 aa rfl ?_;refine RL.N1 (YE ?_);refine RL.pure aa 1 rfl ?_;refine RL.eqv (v':=.int .i64 ((i+1:Nat):Int)) (xZ _ Jb) ?_;refine RL.A1 aa rfl ?_;have Fc:ek m2 S8 m8:=⟨IY.1.trans BC (fun k hk=>.inr (IY.ge k hk)),IY.2.trans OH IY.1.size⟩;refine RL.N1 (QN.round (i+1,v8,S8) (Sub.C1 rfl (Sub.C1 rfl (Sub.C1 rfl (Sub.C1 rfl (Sub.C1 rfl (Sub.nil)))))) ⟨by show i+1≤_;omega,?_,Fc⟩ Jj);show Ev.Own m8 S8 167 3 _ ((A.take (i+1)).foldl (fun out x=>gH B x out) []).length (((A.take (i+1)).foldl (fun out x=>gH B x out) []).flatMap rC);rw [dF,Wq,zY,←jd]
   simpa using xu
 ·replace hc:i=A.length:=by have:=vX hc;simp only at this;omega
  subst hc;rw [wF]at km;have Ms:(A.foldl (fun out x=>gH B x out) []).length≤A.length*(B.length+1):=by
   have h9:=mj A B []
   simpa using h9
  have Mn:Rs m3 [] w (A.foldl (fun out x=>gH B x out) []):=km.sl YA;refine WP.exit (YD ?_);refine YG ?_;refine RL.A1 aa rfl ?_;refine zM (ly m3 w _ Mn J9) ?_;rintro v9 m9 ⟨S9,zb,pt⟩;refine ⟨_,rfl,?_⟩;refine RL.A1 aa rfl ?_;refine RL.N1 (YE ?_);refine WP.ret (YI ?_);have SR:Ext m [] m3:=sk.trans fG.1 YA;exact QN.aj rfl rfl ⟨_,rfl,S9,zb,SR.trans pt.1 YA,pt.2.trans' SR⟩
theorem Ow(m:World)(v u:Value)(a b:List aG)(h:Rs m [] v a)(h':Rs m [] u b)(hl:a.length+b.length<100000000):
  dg Tryz.prog 125 [v,u] m fun r m'=>Made m r (join a b) m':=by
 obtain ⟨A,c,rfl,_,_⟩:=h.shape;obtain ⟨B,c',rfl,_,_⟩:=h'.shape;refine aP.zA Tryz.func125 ?_;refine aa8 ?_;refine ab3 ?_;refine RL.buildSlice aa [.tmp 5,.tmp 6] (us:=[.slice A a.length c,.slice B b.length c']) [.slice A a.length c,.slice B b.length c'] rfl rfl rfl rfl rfl rfl Jz rfl rfl (fun b1 m1 Ew ph=>⟨_,rfl,?_⟩);have dd:Ext m [] m1:=ph.new J9;have N6:Sl m1 [] 1 (.slice (some ⟨b1,0,none⟩) 2 2) [.slice A a.length c,.slice B b.length c']:=Sl.jF (M:=[]) (n:=2) (c:=2) (sz:=1) ph.fc YA YA J9 Jy;refine zM (uu m1 _ _ [a.flatMap rC,b.flatMap rC] [a.length,b.length] N6 rfl rfl (fun i u xs k e1 e2 e3=>?_) (fun xs hx=>?_) J6 YA) ?_
 ·match i with
  |0=>
   simp only [wZ,yJ]at e1 e2 e3;subst e1;subst e2;subst e3;exact ⟨h.bQ dd,fH a⟩
  |1=>
   simp only [uH,wZ,yJ]at e1 e2 e3;subst e1;subst e2;subst e3;exact ⟨h'.bQ dd,fH b⟩
  |i+2=>simp at e1
 ·simp only [yH,uT,uU]at hx;rcases hx with rfl|rfl
  ·exact mU a
  ·exact mU b
 rintro v2 m2 ⟨S2,gJ,jr⟩;refine aa1 ?_;have bM:=dd.trans jr.1 YA;have pL:Rs m2 [] v2 (a++b):=by
  have h9:=gJ.sl (M:=[]) YA;have e9:[a.flatMap rC,b.flatMap rC].flatten=(a++b).flatMap rC:=by simp
  rw [e9]at h9;exact h9
 refine zM (ly m2 _ _ pL Jl) ?_;rintro v3 m3 ⟨S3,km,fG⟩;refine aa1 ?_;refine ac0 ?_;exact QN.aj rfl rfl ⟨_,rfl,S3,km,bM.trans fG.1 YA,fG.2.trans' bM⟩
theorem EG(m:World)(v u:Value)(a b:List aG)(h:Rs m [] v a)(h':Rs m [] u b)(hl:a.length+b.length<100000000):
  dg Tryz.prog 118 [v,u] m fun r m'=>Made m r (join a b) m':=by
 obtain ⟨A,c,rfl,_,_⟩:=h.shape;obtain ⟨B,c',rfl,_,_⟩:=h'.shape;refine aP.zA Tryz.func118 ?_;refine aa8 ?_;refine ab3 ?_;have Ma:Sl m [] 3 (.slice A a.length c) (a.flatMap rC):=h;refine RL.append aa (Own.empty _ _ _ _) (a.flatMap rC) (Src.cS Ma) rfl rfl rfl rfl rfl (fH a) (mU a) Jy (by show(0+_)*24≤_;omega) ?_;intro v1 m1 S1 Fa dd Rp;refine ⟨_,rfl,?_⟩;have Mm:Sl m1 [] 3 (.slice B b.length c') (b.flatMap rC):=h'.bQ dd;have KS:ek m S1 m1:=⟨dd,Rp⟩;refine RL.A1 aa rfl ?_;refine RL.append aa Fa (b.flatMap rC) (Src.cS Mm) rfl rfl rfl rfl rfl (fH b) (mU b) Jy (by show(0+_+_)*24≤_;omega) ?_;intro v2 m2 S2 gJ bM TI;refine ⟨_,rfl,?_⟩;have gz:Ext m [] m2:=dd.trans bM (fun k hk=>.inr (KS.ge k hk));have pL:Rs m2 [] v2 (a++b):=by
  have h9:=gJ.sl (M:=[]) YA;rw [yC,jd]at h9;exact h9
 refine zM (q6 m2 _ _ pL Jl) ?_;rintro v3 m3 ⟨S3,km,fG⟩;refine aa1 ?_;refine ac0 ?_;exact QN.aj rfl rfl ⟨_,rfl,S3,km,gz.trans fG.1 YA,fG.2.trans' gz⟩
end Go.Proofs.YtgpgladbdoimdaaGreatDoor
namespace Go.Proofs.YtgpgladbdoimdaaGreatDoor
open Go.RowKit Go.Ev Go.Ids
theorem On(x:bB)(cl:Nat):x.at cl=if(decide (x.c=cl)&&(decide (1≤cl)&&decide (cl≤9007199254740991)))=true then min x.k 9007199254740991 else 0:=by
 unfold bB.at;simp only [wR,vY]
theorem Gb(l:List bB)(i:Nat)(h:i<l.length)(cl:Nat):bI (l.take (i+1)) cl=max (bI (l.take i) cl) (l[i].at cl):=by
 rw [vN h,ju];simp [bI]
theorem qS(m:World)(v:Value)(l:List bB)(h:Cs m [] v l)(hl:l.length<1000000000)(cl:Nat):dg Tryz.prog 95 [v,.int .u64 cl] m fun r m'=>r=.int .u64 (bI l cl)∧m'=m:=by
 obtain ⟨A,c,rfl,_,_⟩:=h.shape;refine aP.zA Tryz.func95 ?_;refine af5 ?_;refine aa0 ?_;refine (WP.loop (X:=Nat) (fun i=>[(0,.slice A l.length c),(1,.int .u64 cl),(5,.int .u64 (bI (l.take i) cl)),(6,.int .i64 i)])
  (fun i m'=>i≤l.length∧m'=m) (fun i=>l.length-i) 0
  YC ⟨YA,rfl⟩ ?_)
 rintro i m1 ⟨hi,X2⟩;subst X2;refine aa8 ?_;refine WP.cond rfl (fun hc=>?_) (fun hc=>?_)
 ·replace hc:i<l.length:=by have:=xS hc;omega
  obtain ⟨ad,rfl,hx⟩:=h.cell i hc;have gE:=Gb l i hc cl;generalize l[i]=x at hx gE;rw [On]at gE;refine WP.skip (YJ ?_);refine WP.S1 ?_;refine WP.B1 ?_;refine WP.cut (X:=Bool) (fun q=>[(0,.slice (some ad) l.length c),(1,.int .u64 cl),(5,.int .u64 (bI (l.take i) cl)),(6,.int .i64 i),(27,.bool q)]) (fun q m'=>m'=m1∧q=(decide (x.c=cl)&&(decide (1≤cl)&&decide (cl≤9007199254740991)))) ?_ ?_
  ·refine WP.R1 ?_;refine ab8 ?_;refine ab0 ?_;refine ac6 ?_;refine RL.load aa rfl rfl rfl (hx 0 _ rfl) rfl ?_;refine ab8 ?_;refine RL.eqv (v':=.bool (decide (x.c=cl))) (xZ _ (AY _ _)) ?_
   by_cases h1:x.c=cl
   ·refine RL.eqv (v':=.bool true) (xZ _ (zW h1)) ?_;refine ad0 ?_;refine RL.eqv (v':=.bool (decide (1≤cl))) (xZ _ (by rw [vQ];omega)) ?_
    by_cases h2:1≤cl
    ·refine RL.eqv (v':=.bool true) (xZ _ (zW h2)) ?_;refine RL.pure aa 4 rfl ?_;refine RL.eqv (v':=.bool (decide (cl≤9007199254740991))) (xZ _ (by rw [vQ];omega)) ?_;refine ab3 ?_;exact RL.N1 (QN.ar (decide (cl≤9007199254740991)) YC ⟨rfl,by simp [h1,h2]⟩)
    ·refine RL.eqv (v':=.bool false) (xZ _ (zV h2)) ?_;refine ab3 ?_;exact RL.N1 (QN.ar false YC ⟨rfl,by simp [h1,h2]⟩)
   ·refine RL.eqv (v':=.bool false) (xZ _ (zV h1)) ?_;refine ab3 ?_;exact RL.N1 (QN.ar false YC ⟨rfl,by simp [h1]⟩)
  rintro q mc ⟨rfl,hq⟩;rw [←hq]at gE;refine WP.cond rfl (fun UO=>?_) (fun VN=>?_)
  ·rw [yS UO]at gE;refine YG ?_;refine ad0 ?_;refine ab0 ?_;refine ac6 ?_;refine RL.load aa rfl rfl rfl (hx 1 _ rfl) rfl ?_;refine ac6 ?_;refine RL.eqv (v':=.int .u64 (min x.k 9007199254740991:Nat)) (Vv x.k 9007199254740991) ?_;refine ac6 ?_;refine RL.eqv (v':=.int .u64 (bI (l.take (i+1)) cl:Nat)) (by rw [gE];exact WE _ _) ?_;refine aa0 ?_;refine ag8 ?_;exact RL.N1 (QN.round (i+1) YC ⟨J9,rfl⟩ J9)
  ·rw [VN,zX YA,wN]at gE;refine WP.skip ?_;refine YJ ?_;refine YG ?_;refine ag8 ?_;exact RL.N1 (QN.round (i+1) (Sub.C1 rfl (Sub.C1 rfl (Sub.C1 (by rw [gE];rfl) YC))) ⟨J9,rfl⟩ J9)
 ·replace hc:i=l.length:=by have:=vX hc;omega
  subst hc;rw [wF];refine af3 ?_;exact QN.aj rfl rfl ⟨_,rfl,rfl,rfl⟩
structure RV(l:List bB)(i:Nat)(L:List bB):Prop where
 canon:bK L
 told:∀c,bI L c=if∃x∈l.take i,x.c=c then bI l c else 0
 len:L.length≤i
theorem RV.start(l:List bB):RV l 0 []:=⟨bK.nil,fun c=>by rw [zX YA];rfl,yP _⟩
theorem lL(l:List bB)(i:Nat)(h:i<l.length)(c:Nat):(∃x∈l.take (i+1),x.c=c)↔(∃x∈l.take i,x.c=c)∨l[i].c=c:=by
 rw [vN h];constructor
 ·rintro ⟨x,hx,h1⟩;rcases yL.1 hx with hx|hx
  ·exact .inl ⟨x,hx,h1⟩
  ·have:x=l[i]:=by simpa using hx
   subst this;exact .inr h1
 ·rintro (⟨x,hx,h1⟩|h1)
  ·exact ⟨x,yW _ hx,h1⟩
  ·exact ⟨l[i],yX _ YA,h1⟩
theorem RV.skip{l:List bB}{i:Nat}{L:List bB}(h:RV l i L)(hi:i<l.length)(hs:bI l l[i].c=0∨∃y∈L,y.c=l[i].c):RV l (i+1) L:=by
 refine ⟨h.canon,fun c=>?_,by have:=h.len;omega⟩;rw [h.told]
 by_cases h1:∃x∈l.take i,x.c=c
 ·rw [yS h1,yS ((lL l i hi c).2 (.inl h1))]
 ·rw [zX h1]
  by_cases h2:l[i].c=c
  ·rw [yS ((lL l i hi c).2 (.inr h2))];rcases hs with hs|⟨y,hy,hs⟩
   ·rw [←h2,hs]
   ·have h3:=h.canon.at_mem hy;rw [hs,h2,h.told,zX h1]at h3;have:=(h.canon.1 y hy).2.2.1;omega
  ·rw [zX (fun hh=>((lL l i hi c).1 hh).elim h1 h2)]
theorem RV.put{l:List bB}{i at_:Nat}{L:List bB}(h:RV l i L)(hi:i<l.length)(h0:bI l l[i].c≠0)(ha:at_≤L.length)(h1:∀j (hj:j<L.length),j<at_→L[j].c<l[i].c)(h2:∀j (hj:j<L.length),at_≤j→l[i].c<L[j].c):
  RV l (i+1) (L.take at_++⟨l[i].c,bI l l[i].c⟩::L.drop at_):=by
 generalize hx:l[i].c=c0 at*;have cP:bB.ok ⟨c0,bI l c0⟩:=by
  obtain ⟨x,_,_,g1,g2,_⟩:=wh h0;exact ⟨g1,g2,by simp only;omega,xm l c0⟩
 have f1:∀a∈L.take at_,a.c<c0:=fun a hm=>by
  obtain ⟨j,hj,rfl⟩:=xG.1 hm;rw [xH];rw [yA]at hj;exact h1 j J9 J9
 have f2:∀a∈L.drop at_,c0<a.c:=fun a hm=>by
  obtain ⟨j,hj,rfl⟩:=xG.1 hm;rw [zZ]at hj;rw [List.getElem_drop];exact h2 _ J9 J9
 have iE:(L.take at_++L.drop at_).Pairwise fun x y=>x.c<y.c:=by rw [yG];exact h.canon.2
 rw [xF]at iE;have Pl:∀a∈L.take at_++L.drop at_,a∈L:=fun a hm=>by rwa [yG]at hm
 refine ⟨⟨fun y hy=>?_,?_⟩,fun c=>?_,?_⟩
 ·rcases yL.1 hy with hy|hy
  ·exact h.canon.1 y (List.mem_of_mem_take hy)
  ·rcases yH.1 hy with rfl|hy
   ·exact cP
   ·exact h.canon.1 y (tD hy)
 ·rw [xF];refine ⟨iE.1,yZ.2 ⟨f2,iE.2.1⟩,fun a hm b hb=>?_⟩;rcases yH.1 hb with rfl|hb
  ·exact f1 a hm
  ·exact iE.2.2 a hm b hb
 ·have e:bI (L.take at_++⟨c0,bI l c0⟩::L.drop at_) c=max (bI L c) (bB.at ⟨c0,bI l c0⟩ c):=by
   have:=ju (L.take at_) (L.drop at_) c;rw [yG]at this;rw [ju,this];simp only [bI];omega
  rw [e,cP.at,h.told];simp only
  by_cases g:c0=c
  ·subst g;rw [yS rfl,yS ((lL l i hi c0).2 (.inr hx))]
   split<;>omega
  ·rw [zX g]
   by_cases g1:∃x∈l.take i,x.c=c
   ·rw [yS g1,yS ((lL l i hi c).2 (.inl g1))];omega
   ·rw [zX g1,zX (fun hh=>((lL l i hi c).1 hh).elim g1 (fun g2=>g (by rw [←hx];exact g2)))];rfl
 ·have:=h.len;simp;omega
theorem RV.done{l L:List bB}(h:RV l l.length L):L=jw l:=ES h.canon fun c=>by
 rw [h.told,wF]
 by_cases g:∃x∈l,x.c=c
 ·rw [yS g]
 ·rw [zX g]
  by_cases h0:bI l c=0
  ·exact h0.symm
  ·obtain ⟨x,hx,h1,_⟩:=wh h0;exact absurd ⟨x,hx,h1⟩ g
theorem AN(d:List bB)(w x:bB)(k:Nat)(h:k≤d.length):(d.take k++[w]++d.drop k).set k x=d.take k++[x]++d.drop k:=by
 rw [wM,tA _ _ Jq,yA,zR h,tG];simp
theorem Bf(d:List bB)(q:Nat)(h:q<d.length):d.take (q+1)++[d[q]]++d.drop (q+1)=d.take q++[d[q]]++d.drop q:=by
 rw [vN h,tI h];simp
theorem GR(d:List bB)(w:bB)(q:Nat)(h:q<d.length)(h':q<(d.take (q+1)++[w]++d.drop (q+1)).length):(d.take (q+1)++[w]++d.drop (q+1))[q]=d[q]:=by
 rw [uY J6,uY J6,xH]
set_option maxHeartbeats 1000000 in
theorem zg(m:World)(v:Value)(l:List bB)(h:Cs m [] v l)(hl:l.length<100000000):dg Tryz.prog 149 [v] m fun r m'=>AI m r (jw l) m':=by
 obtain ⟨A,c,rfl,_,_⟩:=h.shape;refine aP.zA Tryz.func149 ?_;refine af5 ?_;refine aa0 ?_;refine (WP.loop (X:=Nat×Value×List Nat×List bB) (fun x=>[(0,.slice A l.length c),(3,x.2.1),(4,.int .i64 x.1)])
  (fun x m'=>x.1≤l.length∧RV l x.1 x.2.2.2∧Ev.Own m' x.2.2.1 193 2 x.2.1 x.2.2.2.length (x.2.2.2.flatMap cC)∧ek m x.2.2.1 m') (fun x=>l.length-x.1) (0,.slice none 0 0,[],[])
  YC ⟨YA,RV.start l,Own.empty _ _ _ _,Ext.refl _ _,bp.nil _ _⟩ ?_)
 rintro ⟨i,u,S,d⟩ m1 ⟨hi,hd,hO,hN⟩;simp only at hi hd hO hN;obtain ⟨Au,cu,rfl,_⟩:=hO.shape;have PW:=hd.len;refine YG ?_;refine RL.A1 aa rfl ?_;refine RL.N1 (YE ?_);refine WP.cond rfl (fun hc=>?_) (fun hc=>?_)
 ·replace hc:i<l.length:=by have:=xS hc;simp only at this;omega
  have XR:=h.bQ hN.1;obtain ⟨ad,rfl,hx⟩:=XR.cell i hc;have yh:=hd.skip hc;have LR:=fun at_ h0 ha h1 h2=>hd.put (at_:=at_) hc h0 ha h1 h2
  have Tx:∀m',Ext m [] m'→∀j w,(cC l[i])[j]?=some w→m'.cell? ((ad.add (i*2)).add j)=some w:=fun m' hE=>by
   obtain ⟨ad',h1,h2⟩:=(h.bQ hE).cell i hc
   injection h1 with h1
   subst h1;exact h2
  generalize l[i]=x at hx yh LR Tx;have RY:Cs m1 [] (.slice Au d.length cu) d:=hO.sl YA;refine WP.skip (YE ?_);refine RL.A1 aa rfl ?_;refine RL.N1 (YJ ?_);refine WP.cut (X:=Nat) (fun a=>[(0,.slice (some ad) l.length c),(3,.slice Au d.length cu),(4,.int .i64 i),(5,.int .i64 a)])
   (fun a m'=>m'=m1∧a≤d.length∧(∀j (h:j<d.length),j<a→d[j].c<x.c)∧∀h:a<d.length,x.c≤d[a].c) ?_ ?_
  ·refine WP.B1 ?_;refine (WP.loop (X:=Nat) (fun a=>[(0,.slice (some ad) l.length c),(3,.slice Au d.length cu),(4,.int .i64 i),(5,.int .i64 a)])
    (fun a m'=>m'=m1∧a≤d.length∧(∀j (h:j<d.length),j<a→d[j].c<x.c)) (fun a=>d.length-a) 0
    YC ⟨rfl,YA,(fun j _ hj=>absurd hj J9)⟩ ?_)
   rintro a mL ⟨rfl,ha,aM⟩;refine WP.S1 ?_;refine WP.S1 ?_;refine WP.dI (fun m'=>m'=mL) [] J7 rfl JJ (fun hQ=>?_);refine RH.pure aa hQ [0,1,2,3] J7 rfl ?_
   by_cases CV:a<d.length
   rotate_left
   ·refine RH.eqv (v':=.bool false) (xZ _ (zV J9)) ?_;refine RH.pure aa hQ [4,5,6,7,8,9,10,11,12,13,14,15,16] J7 rfl ?_;refine RH.done J7 (fun _=>?_);refine YJ ?_;refine WP.bg rfl ?_;refine WP.exit ?_;refine YH ?_;exact QN.ar a YC ⟨rfl,ha,aM,fun h=>absurd h CV⟩
   obtain ⟨adu,rfl,hy⟩:=RY.cell a CV;refine RH.eqv (v':=.bool true) (xZ _ (zW J9)) ?_;refine RH.pure aa hQ [4,5,6] J7 rfl ?_;refine RH.indexAddr aa hQ 7 (k:=a) rfl J7 rfl rfl rfl rfl rfl rfl rfl CV rfl ?_;refine RH.pure aa hQ [8] J7 rfl ?_;refine RH.load aa hQ 9 (fun m' bm=>by rw [bm];exact hy 0 _ rfl) rfl J7 rfl rfl rfl rfl ?_;refine RH.pure aa hQ [10,11] J7 rfl ?_;refine RH.indexAddr aa hQ 12 (k:=i) rfl J7 rfl rfl rfl rfl rfl rfl rfl hc rfl ?_;refine RH.pure aa hQ [13] J7 rfl ?_;refine RH.load aa hQ 14 (fun m' bm=>by rw [bm];exact hx 0 _ rfl) rfl J7 rfl rfl rfl rfl ?_;refine RH.pure aa hQ [15] J7 rfl ?_
   by_cases jT:d[a].c<x.c
   ·refine RH.eqv (v':=.bool true) (xZ _ (by rw [sv];exact zW jT)) ?_;refine RH.pure aa hQ [16] J7 rfl ?_;refine RH.done J7 (fun _=>?_);refine YJ ?_;refine WP.da rfl ?_;refine ab7 ?_;refine ab8 ?_;refine RL.eqv (v':=.int .i64 ((a+1:Nat):Int)) (xZ _ Jb) ?_;refine ab3 ?_;refine RL.N1 ?_;refine YJ ?_;refine QN.round (a+1) YC ⟨rfl,CV,fun j hj QS=>?_⟩ J9
    by_cases PY:j=a
    ·subst PY;exact jT
    ·exact aM j hj J9
   ·refine RH.eqv (v':=.bool false) (xZ _ (by rw [sv];exact zV jT)) ?_;refine RH.pure aa hQ [16] J7 rfl ?_;refine RH.done J7 (fun _=>?_);refine YJ ?_;refine WP.bg rfl ?_;refine WP.exit ?_;refine YH ?_;exact QN.ar a YC ⟨rfl,ha,aM,fun _=>by omega⟩
  rintro a mL ⟨rfl,ha,aM,fW⟩;refine WP.S1 ?_;refine WP.cut (X:=Bool) (fun q=>[(0,.slice (some ad) l.length c),(3,.slice Au d.length cu),(4,.int .i64 i),(5,.int .i64 a),(58,.bool q)])
   (fun q m'=>m'=mL∧(q=true→bI l x.c=0∨∃y∈d,y.c=x.c)∧(q=false→bI l x.c≠0∧∀j (h:j<d.length),a≤j→x.c<d[j].c)) ?_ ?_
  ·refine WP.dI (fun m'=>m'=mL) [] J7 rfl JJ (fun hQ=>?_);refine af1 ?_;refine RH.load aa hQ 5 (fun m' bm=>by rw [bm];exact hx 0 _ rfl) rfl J7 rfl rfl rfl rfl ?_;refine RH.only 6 rfl J7 (fun _=>?_);refine zM (qS mL _ l XR J9 x.c) ?_;rintro _ mM ⟨rfl,Vt⟩;subst Vt;refine ⟨_,rfl,RL.N1 (RH.cont rfl ?_)⟩;refine RH.pure aa hQ [7] J7 rfl ?_
   by_cases h0:bI l x.c=0
   ·refine RH.eqv (v':=.bool true) (xZ _ (by rw [h0];rfl)) ?_;refine RH.pure aa hQ [8,9,10,11,12,13,14,15,16,17,18,19,20,21,22,23,24,25,26] J7 rfl ?_;refine RH.done J7 (fun _=>?_);exact QN.ar true YC ⟨rfl,(fun _=>.inl h0),(fun hh=>by cases hh)⟩
   refine RH.eqv (v':=.bool false) (xZ _ (by rw [uN];omega)) ?_;refine RH.pure aa hQ [8,9,10,11,12] J7 rfl ?_
   by_cases CV:a<d.length
   rotate_left
   ·refine RH.eqv (v':=.bool false) (xZ _ (zV J9)) ?_;refine RH.pure aa hQ [13,14,15,16,17,18,19,20,21,22,23,24,25,26] J7 rfl ?_;refine RH.done J7 (fun _=>?_);exact QN.ar false YC ⟨rfl,(fun hh=>by cases hh),fun _=>⟨h0,fun j hj QS=>absurd hj J9⟩⟩
   obtain ⟨adu,rfl,hy⟩:=RY.cell a CV;have X6:=fW CV;refine RH.eqv (v':=.bool true) (xZ _ (zW J9)) ?_;refine RH.pure aa hQ [13,14,15] J7 rfl ?_;refine RH.indexAddr aa hQ 16 (k:=a) rfl J7 rfl rfl rfl rfl rfl rfl rfl CV rfl ?_;refine RH.pure aa hQ [17] J7 rfl ?_;refine RH.load aa hQ 18 (fun m' bm=>by rw [bm];exact hy 0 _ rfl) rfl J7 rfl rfl rfl rfl ?_;refine RH.pure aa hQ [19,20] J7 rfl ?_;refine RH.indexAddr aa hQ 21 (k:=i) rfl J7 rfl rfl rfl rfl rfl rfl rfl hc rfl ?_;refine RH.pure aa hQ [22] J7 rfl ?_;refine RH.load aa hQ 23 (fun m' bm=>by rw [bm];exact hx 0 _ rfl) rfl J7 rfl rfl rfl rfl ?_;refine RH.pure aa hQ [24] J7 rfl ?_;refine RH.eqv (v':=.bool (decide (d[a].c=x.c))) (xZ _ (AY _ _)) ?_;refine RH.pure aa hQ [25,26] J7 rfl ?_;refine RH.done J7 (fun _=>?_);refine QN.ar (decide (d[a].c=x.c)) YC ⟨rfl,(fun hh=>.inr ⟨d[a],vF _,xS hh⟩),fun hh=>⟨h0,fun j hj QS=>?_⟩⟩;have dP:=vX hh;rcases Nat.lt_or_eq_of_le QS with h9|h9
   ·have:=xJ.1 hd.canon.2 a j CV hj h9;omega
   ·subst h9;omega
  rintro q mM ⟨rfl,UO,VN⟩;refine WP.cond rfl (fun hq=>?_) (fun hq=>?_)
  ·have gE:=yh (UO hq);refine WP.exit (YD ?_);refine YG ?_;refine RL.pure aa 2 rfl ?_;refine RL.eqv (v':=.int .i64 ((i+1:Nat):Int)) (xZ _ Jb) ?_;refine RL.A1 aa rfl ?_;exact RL.N1 (QN.round (i+1,.slice Au d.length cu,S,d) YC ⟨by show i+1≤_;omega,gE,hO,hN⟩ Jj)
  obtain ⟨h0,IL⟩:=VN hq;have gE:=LR a h0 ha aM IL;refine WP.skip (YE ?_);refine RL.pure aa 2 rfl ?_;refine RL.dZ aa [.tmp 60] hO (us:=[cV ⟨0,0⟩]) (cC ⟨0,0⟩) rfl rfl rfl rfl rfl rfl rfl rfl rfl (by simp [cV,cC,Value.cells]) (by simp [cV,Value.cells]) (xp _) Jy (by show(_+1)*16≤_;omega) ?_;intro v4 m4 S4 gl eQ xx;refine ⟨_,rfl,?_⟩;have lX:ek m S4 m4:=⟨hN.1.trans eQ (fun k hk=>.inr (hN.ge k hk)),hN.2.trans xx hN.1.size⟩;obtain ⟨A4,c4,rfl,_⟩:=gl.shape;refine RL.A1 aa rfl ?_;refine RL.N1 (YE ?_);refine RL.pure aa 3 rfl ?_;refine RL.eqv (v':=.int .i64 (d.length:Int)) (xZ _ JY) ?_;refine RL.A1 aa rfl ?_;refine RL.N1 (YE ?_);refine (WP.loop (X:=Nat×bB) (fun q=>[(0,.slice (some ad) l.length c),(3,.slice A4 (d.length+1) c4),(4,.int .i64 i),(5,.int .i64 a),(6,.int .i64 q.1)])
   (fun q m'=>a≤q.1∧q.1≤d.length∧Ev.Own m' S4 193 2 (.slice A4 (d.length+1) c4) (d.length+1) ((d.take q.1++[q.2]++d.drop q.1).flatMap cC)∧ek m S4 m') (fun q=>q.1) (d.length,⟨0,0⟩)
   YC ⟨ha,yP _,by simpa using gl,lX⟩ ?_)
  rintro ⟨k,w⟩ m5 ⟨k1,k2,gZ,iS⟩;simp only at k1 k2 gZ;have FG:(d.take k++[w]++d.drop k).length=d.length+1:=by simp;omega
  refine aa8 ?_;refine WP.cond rfl (fun mr=>?_) (fun mr=>?_)
  ·replace mr:a<k:=by have:=xS mr;simp only at this;omega
   obtain ⟨q,rfl⟩:∃q,k=q+1:=⟨k-1,J9⟩;have Wp:Cs m5 [] (.slice A4 (d.length+1) c4) (d.take (q+1)++[w]++d.drop (q+1)):=gZ.sl YA;obtain ⟨ad5,rfl,hy⟩:=Wp.cell q J6;rw [GR d w q J9]at hy;obtain ⟨g,cap,cur,eY,yf,rfl,sV,eG⟩:=gZ.yo (j:=(q+1)*2) (k:=2) J9 J9
   injection eY with eY sJ
   injection eY with eY
   subst eY;refine ai6 ?_;refine RL.indexAddr (k:=q) aa rfl rfl rfl rfl rfl rfl rfl J9 rfl ?_;refine RL.aJ aa (cC d[q]) rfl rfl rfl hy rfl ?_;refine RL.indexAddr (k:=q+1) aa rfl rfl rfl rfl rfl rfl rfl J9 rfl ?_;refine RL.eqv (v':=.pointer (some ⟨g,(q+1)*2,none⟩)) (xZ (fun q=>Value.pointer (some q)) (by rw [av];show(⟨g,0+(q+1)*2,none⟩:Addr)=_;rw [zU])) ?_;refine RL.bF aa (b:=g) (i:=(q+1)*2) (vs:=cC d[q]) yf rfl rfl rfl rfl rfl sV (xp _) rfl ?_;intro m6 jJ;have iz:=eG m6 (cC d[q]) rfl jJ;rw [Dh _ (q+1) _ (by rw [FG];omega),AN d w _ (q+1) k2,Bf d q J9]at iz;refine RL.N1 (YE ?_);refine RL.pure aa 2 rfl ?_;refine RL.eqv (v':=.int .i64 (q:Int)) (xZ _ JY) ?_;refine RL.A1 aa rfl ?_;exact RL.N1 (QN.round (q,d[q]) YC ⟨by show a≤q;omega,by show q≤_;omega,iz,⟨iS.1.trans jJ.ext (fun k hk=>.inr (iS.ge k hk)),iS.2⟩⟩ (by show q<q+1;omega))
  ·replace mr:k=a:=by have:=vX mr;simp only at this;omega
   subst mr;obtain ⟨g,cap,cur,eY,yf,rfl,sV,eG⟩:=gZ.yo (j:=k*2) (k:=2) J9 J9
   injection eY with eY sJ
   subst eY;have TJ:=Tx m5 iS.1;refine WP.exit ?_;refine YD ?_;refine WP.dI (fun m'=>m'=m5) [16] J7 rfl JJ (fun hQ=>?_);refine RH.pure aa hQ [0,1,2,3] J7 rfl ?_;refine RH.indexAddr aa hQ 4 (k:=i) rfl J7 rfl rfl rfl rfl rfl rfl rfl hc rfl ?_;refine RH.pure aa hQ [5] J7 rfl ?_;refine RH.load aa hQ 6 (fun m' bm=>by rw [bm];exact TJ 0 _ rfl) rfl J7 rfl rfl rfl rfl ?_;refine RH.pure aa hQ [7,8,9] J7 rfl ?_;refine RH.indexAddr aa hQ 10 (k:=i) rfl J7 rfl rfl rfl rfl rfl rfl rfl hc rfl ?_;refine RH.pure aa hQ [11] J7 rfl ?_;refine RH.load aa hQ 12 (fun m' bm=>by rw [bm];exact TJ 0 _ rfl) rfl J7 rfl rfl rfl rfl ?_;refine RH.only 13 rfl J7 (fun _=>?_);refine zM (qS m5 _ l (h.bQ iS.1) J9 x.c) ?_;rintro _ mM ⟨rfl,Vt⟩;subst Vt;refine ⟨_,rfl,RL.N1 (RH.cont rfl ?_)⟩;refine RH.pure aa hQ [14] J7 rfl ?_;refine RH.eqv (v':=cV ⟨x.c,bI l x.c⟩) rfl ?_;refine RH.indexAddr aa hQ 15 (k:=k) rfl J7 rfl rfl rfl rfl rfl rfl rfl J9 rfl ?_;refine RH.eqv (v':=.pointer (some ⟨g,k*2,none⟩)) (xZ (fun q=>Value.pointer (some q)) (by rw [av,zU])) ?_;refine RH.only 16 rfl J7 (fun _=>?_);refine RL.bF aa (b:=g) (i:=k*2) (vs:=cC ⟨x.c,bI l x.c⟩) yf rfl rfl rfl rfl rfl sV (xp _) rfl ?_;intro m6 jJ;have iz:=eG m6 (cC ⟨x.c,bI l x.c⟩) rfl jJ;rw [Dh _ k _ (by rw [FG];omega),AN d w _ k k2]at iz;have kN:(d.take k++⟨x.c,bI l x.c⟩::d.drop k).length=d.length+1:=by simp;omega
   refine RL.N1 (RF.cont J7 ?_);refine RF.done J7 ?_;refine YJ ?_;refine YG ?_;refine ag8 ?_;refine RL.N1 (QN.round (i+1,.slice (some ⟨g,0,none⟩) (d.length+1) c4,[g],d.take k++⟨x.c,bI l x.c⟩::d.drop k) YC ⟨by show i+1≤_;omega,gE,?_,⟨iS.1.trans jJ.ext (fun k hk=>.inr (iS.ge k hk)),iS.2⟩⟩ Jj);show Ev.Own m6 [g] 193 2 _ (d.take k++⟨x.c,bI l x.c⟩::d.drop k).length _;rw [kN]
   simpa using iz
 ·replace hc:i=l.length:=by have:=vX hc;simp only at this;omega
  subst hc;have he:=hd.done;subst he;refine WP.exit (YD ?_);refine YG ?_;refine RL.A1 aa rfl ?_;refine RL.N1 (YE ?_);refine WP.ret (YI ?_);exact QN.aj rfl rfl ⟨_,rfl,S,hO,hN⟩
def tC(x:aK):List Value:=[.int .u64 x.c,.int .u64 x.f,.int .u64 x.t,.int .u64 x.n]
def tV(x:aK):Value:=.agg (tC x).toArray
theorem iZ(x:aK):x.right=(aG.right ⟨x.c,x.f,x.t⟩&&num x.n):=rfl
theorem Oh(m:World)(x:aK):dg Tryz.prog 169 [tV x] m fun r m'=>r=.bool x.right∧Ext m [] m':=by
 refine aP.zA Tryz.func169 ?_;refine YG ?_;refine RL.box rfl rfl (fun b m1 hb hC=>⟨_,rfl,?_⟩);have hB:bw m1 b 122 (tC x):=hC.here;have hE:Ext m [] m1:=hC.new J9;clear hC;refine RL.A1 aa rfl ?_;refine RL.N1 (YE ?_)
 repeat(first|refine RL.pure aa 1 rfl ?_|refine RL.load aa rfl rfl rfl (hB.cell _ rfl) rfl ?_)
 refine RL.eqv (v':=rV ⟨x.c,x.f,x.t⟩) rfl ?_;refine zM (u6 m1 ⟨x.c,x.f,x.t⟩) ?_;rintro _ m2 ⟨rfl,bM⟩;refine aa1 ?_;have pX:=hB.ext bM YA
 by_cases h1:aG.right ⟨x.c,x.f,x.t⟩=true
 ·refine ai9 ?_
  repeat(first|refine RL.pure aa 1 rfl ?_|refine RL.load aa rfl rfl rfl (pX.cell _ rfl) rfl ?_)
  refine zM (nf m2 x.n) ?_;rintro _ m3 ⟨rfl,rfl⟩;refine aa1 ?_
  repeat(first|refine RL.pure aa 1 rfl ?_|refine RL.load aa rfl rfl rfl (pX.cell _ rfl) rfl ?_)
  refine aj1 ?_;exact QN.aj rfl rfl ⟨_,rfl,xZ _ (by rw [iZ,h1];rfl),hE.trans bM YA⟩
 ·refine ah0 ?_
  repeat(first|refine RL.pure aa 1 rfl ?_|refine RL.load aa rfl rfl rfl (pX.cell _ rfl) rfl ?_)
  refine aj1 ?_;exact QN.aj rfl rfl ⟨_,rfl,xZ _ (by rw [iZ];simp [h1]),hE.trans bM YA⟩
theorem oW(m:World)(x:aK):dg Tryz.prog 100 [tV x] m fun r m'=>r=.bool x.right∧Ext m [] m':=by
 refine aP.zA Tryz.func100 ?_;refine YG ?_;refine RL.box rfl rfl (fun b m1 hb hC=>⟨_,rfl,?_⟩);have hB:bw m1 b 122 (tC x):=hC.here;have hE:Ext m [] m1:=hC.new J9;clear hC;refine RL.A1 aa rfl ?_;refine RL.N1 (YE ?_)
 repeat(first|refine RL.pure aa 1 rfl ?_|refine RL.load aa rfl rfl rfl (hB.cell _ rfl) rfl ?_)
 refine RL.eqv (v':=rV ⟨x.c,x.f,x.t⟩) rfl ?_;refine zM (kH m1 ⟨x.c,x.f,x.t⟩) ?_;rintro _ m2 ⟨rfl,bM⟩;refine aa1 ?_;have pX:=hB.ext bM YA
 by_cases h1:aG.right ⟨x.c,x.f,x.t⟩=true
 ·refine ai9 ?_
  repeat(first|refine RL.pure aa 1 rfl ?_|refine RL.load aa rfl rfl rfl (pX.cell _ rfl) rfl ?_)
  by_cases h2:1≤x.n
  ·refine RL.eqv (v':=.bool true) (xZ _ (by rw [Dn x.n 1 1 rfl];exact zW h2)) ?_
   repeat(first|refine RL.pure aa 1 rfl ?_|refine RL.load aa rfl rfl rfl (pX.cell _ rfl) rfl ?_)
   refine aj1 ?_;refine QN.aj rfl rfl ⟨_,rfl,xZ _ ?_,hE.trans bM YA⟩;rw [iF x.n 9007199254740991 9007199254740991 rfl,iZ,h1];simp [num,h2]
  ·refine RL.eqv (v':=.bool false) (xZ _ (by rw [Dn x.n 1 1 rfl];exact zV h2)) ?_
   repeat(first|refine RL.pure aa 1 rfl ?_|refine RL.load aa rfl rfl rfl (pX.cell _ rfl) rfl ?_)
   refine aj1 ?_;refine QN.aj rfl rfl ⟨_,rfl,xZ _ ?_,hE.trans bM YA⟩;rw [iZ,h1];simp [num,h2]
 ·refine ah0 ?_
  repeat(first|refine RL.pure aa 1 rfl ?_|refine RL.load aa rfl rfl rfl (pX.cell _ rfl) rfl ?_)
  refine aj1 ?_;exact QN.aj rfl rfl ⟨_,rfl,xZ _ (by rw [iZ];simp [h1]),hE.trans bM YA⟩
def Rb(x y:aK):Int:=if ic x.c y.c=0 then ic x.f y.f else ic x.c y.c
theorem OK(m:World)(x y:aK):dg Tryz.prog 171 [tV x,tV y] m fun r m'=>r=.int .i64 (Rb x y)∧Ext m [] m':=by
 refine aP.zA Tryz.func171 ?_;refine YG ?_;refine RL.box rfl rfl (fun b m1 hb hC=>⟨_,rfl,?_⟩);refine RL.box rfl rfl (fun b2 m2 BE mQ=>⟨_,rfl,?_⟩);have dd:Ext m [] m1:=hC.new J9;have bM:Ext m1 [] m2:=mQ.new J9;have s1:=hC.size;have C8:bw m1 b 122 (tC x):=hC.here;have hB:bw m2 b 122 (tC x):=C8.ext bM YA;have hD:bw m2 b2 122 (tC y):=mQ.here;have hE:Ext m [] m2:=dd.trans bM YA;clear hC mQ C8 dd bM;refine RL.A1 aa rfl ?_;refine RL.N1 (QN.N1 ?_);refine WP.S1 ?_;refine WP.dI (fun m'=>bw m' b 122 (tC x)∧bw m' b2 122 (tC y)) [] J7 ⟨hB,hD⟩ JJ (fun hQ=>?_);refine RH.pure aa hQ [0] J7 rfl ?_;refine RH.load aa hQ 1 (fun m' h=>h.1.cell 0 rfl) rfl J7 rfl rfl rfl rfl ?_;refine RH.pure aa hQ [2] J7 rfl ?_;refine RH.load aa hQ 3 (fun m' h=>h.2.cell 0 rfl) rfl J7 rfl rfl rfl rfl ?_;refine RH.pure aa hQ [5] J7 rfl ?_;refine RH.load aa hQ 6 (fun m' h=>h.1.cell 1 rfl) rfl J7 rfl rfl rfl rfl ?_;refine RH.pure aa hQ [7] J7 rfl ?_;refine RH.load aa hQ 8 (fun m' h=>h.2.cell 1 rfl) rfl J7 rfl rfl rfl rfl ?_;refine RH.only 4 rfl J7 (fun _=>?_);refine zM (lB m2 x.c y.c) ?_;rintro _ m3 ⟨rfl,rfl⟩;refine ⟨_,rfl,RL.N1 (RH.cont ⟨hB,hD⟩ ?_)⟩;refine RH.only 9 rfl J7 (fun _=>?_);refine zM (lB m3 x.f y.f) ?_;rintro _ m4 ⟨rfl,rfl⟩;refine ⟨_,rfl,RL.N1 (RH.cont ⟨hB,hD⟩ ?_)⟩;refine RH.only 10 rfl J7 (fun _=>?_);refine RL.buildSlice aa [.tmp 9,.tmp 14] [.int .i64 (ic x.c y.c),.int .i64 (ic x.f y.f)] rfl rfl rfl rfl rfl rfl Jz rfl rfl (fun b5 m5 P9 ki=>⟨_,rfl,?_⟩);have ff:Ext m4 [] m5:=ki.new J9;refine RL.N1 (RH.cont ⟨hB.ext ff YA,hD.ext ff YA⟩ ?_);have Rn:Sl m5 [] 1 (.slice (some ⟨b5,0,none⟩) 2 2) [.int .i64 (ic x.c y.c),.int .i64 (ic x.f y.f)]:=Sl.jF (M:=[]) (n:=2) (c:=2) (sz:=1) ki.fc YA YA J9 Jy;refine RH.only 11 rfl J7 (fun _=>?_);refine zM (Q5 m5 _ _ _ Rn) ?_;rintro _ m6 ⟨rfl,rfl⟩;refine ⟨_,rfl,RL.N1 (RH.cont ⟨hB.ext ff YA,hD.ext ff YA⟩ ?_)⟩;refine RH.pure aa hQ [12] J7 rfl ?_;refine RH.done J7 (fun _=>?_);refine QN.N1 ?_;refine WP.ret (YI ?_);exact QN.aj rfl rfl ⟨_,rfl,rfl,hE.trans ff YA⟩
theorem eu:∀l:List aK,(l.flatMap tC).length=l.length*4
 |[]=>rfl
 |x::l=>by simp [tC,eu l];omega
theorem C3:∀(l:List aK) (k:Nat) (h:k<l.length) (j:Nat),j<4→(l.flatMap tC)[k*4+j]?=(tC l[k])[j]?
 |x::l,0,_,j,hj=>by
  rw [vH,vJ (by simp [tC];omega)];simp
 |x::l,k+1,h,j,hj=>by
  rw [vH,vM (by simp [tC];omega)];have:(k+1)*4+j-(tC x).length=k*4+j:=by simp [tC];omega
  rw [this,C3 l k J5 j hj];simp
theorem lK(l:List aK):∀u∈l.flatMap tC,u.oneCell'=true:=by
 intro u hu;obtain ⟨x,_,hx⟩:=vS.1 hu;simp [tC]at hx;rcases hx with rfl|rfl|rfl|rfl<;>rfl
def Ts(m:World)(M:List Nat)(v:Value)(l:List aK):Prop:=Sl m M 4 v (l.flatMap tC)
theorem Ts.shape{m:World}{M:List Nat}{v:Value}{l:List aK}(h:Ts m M v l):∃A c,v=.slice A l.length c∧l.length≤c∧c≤maxLen:=Sl.shape h (eu l) J9
theorem Ts.bQ{m m':World}{v:Value}{l:List aK}(h:Ts m [] v l)(hE:Ext m [] m'):Ts m' [] v l:=Sl.ext h hE YA J9
theorem Ts.cell{m:World}{M:List Nat}{A:Option Addr}{n c:Nat}{l:List aK}(h:Ts m M (.slice A n c) l)(k:Nat)(hk:k<l.length):∃ad,A=some ad∧∀j u,(tC l[k])[j]?=some u→m.cell? ((ad.add (k*4)).add j)=some u:=by
 obtain ⟨hl,_⟩:=Sl.len h;rw [eu]at hl;obtain ⟨ad,rfl,_,hc⟩:=Sl.addr h J9;refine ⟨ad,rfl,fun j u hu=>?_⟩;have hj:j<4:=by have:=(yV.1 hu).1;simpa [tC]using this
 rw [add_add];exact hc _ u (by rw [C3 l k hk j hj];exact hu)
theorem K5(x y:aK)(w:World):(binOp .neq 122 (tV x) (tV y)).run Tryz.prog w=.ok (.bool (decide (x≠y))) w:=by
 have hS:Tryz.prog.underlying 122=some (.struct (Tryz.prog.fieldsOf 122)):=by kernel_rfl
 have hp:Tryz.prog.stoodInHeld 122=false:=by kernel_rfl
 have u37:=Tryz.underlying28;have a37:=Tryz.isAgg28;have z37:=Tryz.sizeOf28;simp only [tV,tC];rw [run_neq_struct,show(10000:Nat)=9999+1 from rfl,run_equalIn_agg w 9999 122 _ _ hS hp];simp only [Program.fieldsOf,Tryz.underlying122]
 go_simp
 obtain ⟨a,b,c,d⟩:=x;obtain ⟨a',b',c',d'⟩:=y
 by_cases h1:a=a'<;>by_cases h2:b=b'<;>by_cases h3:c=c'<;>by_cases h4:d=d'<;>simp [h1,h2,h3,h4,Int.natCast_inj] 
theorem DV(x y:aK)(ox oy:Operand)(w:World):(eqGuard .neq 122 ox oy (tV x) (tV y)).run Tryz.prog w=.ok () w:=run_eqGuard_agg w .neq 122 ox oy _ _ J7
def TK(b1 b2:Nat)(v:Value)(l:List aK)(k:FuncId)(a:World):Prop:=bw a b1 45 [v]∧bw a b2 186 [.func (.func k) #[] #[]]∧Ts a [] v l
theorem B7(m:World)(b1 b2:Nat)(v:Value)(l:List aK)(hl:l.length<1000000000)(k:FuncId)(p:aK→Bool)(hf:∀m1 x,dg Tryz.prog k [tV x] m1 fun r m2=>r=.bool (p x)∧Ext m1 [] m2):
  NA Tryz.prog 212 [.pointer (some ⟨b1,0,none⟩),.pointer (some ⟨b2,0,none⟩)] (fun x:aK=>[tV x]) false (TK b1 b2 v l k) (fun pre x=>p x=true∧pre.length<l.length) (fun xs=>xs=l.filter p) (fun _=>True) m:=by
 intro lp J Jx m1 _ hJ YR hK BG h0;have ib:=hK _ _ h0;obtain ⟨A,c,rfl,_,_⟩:=ib.2.2.shape;refine aP.zA Tryz.func212 ?_;refine YG ?_;refine RL.load aa rfl rfl rfl (ib.1.cell 0 rfl) rfl ?_;refine RL.A1 aa rfl ?_;refine RL.N1 (YE ?_);refine WP.loop (X:=Nat) (fun i=>[(0,.func (.yield lp) #[] #[]),(1,.pointer (some ⟨b1,0,none⟩)),(2,.pointer (some ⟨b2,0,none⟩)),(6,.slice A l.length c),(7,.int .i64 l.length),(8,.int .i64 i)])
  (fun i m'=>i≤l.length∧J ((l.take i).filter p) m') (fun i=>l.length-i) 0 YC ⟨YA,h0⟩ ?_
 rintro i m2 ⟨hi,hj⟩;have hk:=hK _ _ hj;refine YG ?_;refine RL.A1 aa rfl ?_;refine RL.N1 (YE ?_);refine WP.cond rfl (fun hc=>?_) (fun hc=>?_)
 ·have hc:i<l.length:=by have:=xS hc;omega
  obtain ⟨ad,rfl,hx⟩:=hk.2.2.cell i hc;have bo:(l.take (i+1)).filter p=(l.take i).filter p++(if p l[i]then[l[i]]else[]):=by
   rw [vN hc,xX];cases h:p l[i]<;>simp [h]
  refine ab7 ?_;refine ab0 ?_;refine RL.aJ aa (tC l[i]) rfl rfl rfl hx rfl ?_;refine RL.alloc aa rfl rfl (fun b5 m3 P9 sP=>⟨_,rfl,?_⟩);refine RL.bF aa (b:=b5) (i:=0) (vs:=tC l[i]) (cs:=[.int .u64 0,.int .u64 0,.int .u64 0,.int .u64 0]) sP.fc rfl rfl rfl rfl rfl YA Ju rfl ?_;intro m4 jf;have eQ:Ext m2 [] m4:=(sP.new J9).trans jf.ext (fun q hq=>.inr (by have h9:q=b5:=J3;omega));have mo:bw m4 b5 122 (tC l[i]):=jf.fc;have SQ:=hJ _ _ _ hj eQ;have LZ:=hK _ _ SQ;refine RL.N1 (YE ?_);refine RL.load aa rfl rfl rfl (LZ.2.1.cell 0 rfl) rfl ?_;refine RL.aJ aa (tC l[i]) rfl rfl rfl (fun j u hu=>by rw [av];exact mo.cell _ J2) rfl ?_;refine zM (hf m4 l[i]) ?_;rintro _ m5 ⟨rfl,ff⟩;refine ⟨_,rfl,?_⟩;have yf:=mo.ext ff YA;have sV:=hJ _ _ _ SQ ff;refine RL.pure aa 1 rfl ?_
  by_cases hp:p l[i]=true
  ·refine RL.eqv (v':=.bool true) (xZ _ hp) ?_;refine ab3 ?_;refine RL.aJ aa (tC l[i]) rfl rfl rfl (fun j u hu=>by rw [av];exact yf.cell _ J2) rfl ?_;refine RL.yield rfl rfl rfl (BG _ l[i] m5 sV ⟨hp,Nat.lt_of_le_of_lt (xD _ _) J6⟩) ?_ (by rintro ch m6 (⟨h,_⟩|⟨h,_⟩)<;>cases h) (by rintro m6 (⟨h,_⟩|⟨h,_⟩)<;>cases h);rintro _ m6 (⟨h6,Ng,_⟩|⟨h6,Ng⟩)
   ·injection h6 with h6
    subst h6;refine aa1 ?_;refine ae3 ?_;rw [bo,yS hp];exact Ng
   ·injection h6 with h6
    subst h6;refine ai2 ?_;refine WP.da rfl ?_;refine WP.ret (YI ?_);exact QN.GK rfl ⟨_,rfl,.inr ⟨_,trivial,Ng⟩⟩
  ·refine RL.eqv (v':=.bool false) (xZ _ (vR _▸hp)) ?_;refine ae3 ?_;rw [bo,zX hp,vI];exact sV
 ·have hc:i=l.length:=by have:=vX hc;omega
  subst hc;rw [wF]at hj;refine ac2 ?_;exact QN.kg rfl ⟨_,rfl,.inl ⟨_,rfl,hj⟩⟩
theorem E2(m:World)(v:Value)(l:List aK)(k:FuncId):dg Tryz.prog 168 [v,.func (.func k) #[] #[]] m fun r m'=>∃b1 b2,r=.func (.func 212) #[] #[.pointer (some ⟨b1,0,none⟩),.pointer (some ⟨b2,0,none⟩)]∧m.heap.size≤b1∧m.heap.size≤b2∧Ext m [] m'∧(Ts m [] v l→TK b1 b2 v l k m'):=by
 refine aP.zA Tryz.func168 ?_;refine YG ?_;refine RL.box rfl rfl (fun b1 m1 Ew ph=>⟨_,rfl,?_⟩);refine RL.box rfl rfl (fun b2 m2 BE mQ=>⟨_,rfl,?_⟩);have dd:Ext m [] m1:=ph.new J9;have bM:Ext m1 [] m2:=mQ.new J9;have s1:=ph.size;refine RL.A1 aa rfl ?_;refine RL.N1 (YE ?_);refine RL.A1 aa rfl ?_;refine RL.N1 (YE ?_);refine WP.ret (YI ?_);refine QN.aj rfl rfl ⟨_,rfl,b1,b2,rfl,J9,J9,dd.trans bM YA,fun h=>⟨?_,mQ.here,(h.bQ dd).bQ bM⟩⟩;obtain ⟨A,c,rfl,_,_⟩:=h.shape;exact bw.ext (cs:=[.slice A l.length c]) ph.here bM YA
def aK.le(x y:aK):Prop:=x.c<y.c∨(x.c=y.c∧x.f≤y.f)
theorem nQ(x y:aK):Go.Proofs.ltOf Rb x y=true↔x.c<y.c∨(x.c=y.c∧x.f<y.f):=by
 unfold Go.Proofs.ltOf;rw [vY];unfold Rb
 split
 ·rename_i h;rw [lN]at h;rw [nq];omega
 ·rename_i h;rw [lN]at h;rw [nq];omega
theorem Wv:Go.Sort.SWO (Go.Proofs.ltOf Rb)where
 irrefl x:=by rw [←vR,nQ];omega
 trans x y z h1 h2:=by rw [nQ]at*;omega
 ntrans x y z h1 h2:=by
  rw [←vR,nQ]at*;omega
instance:Inhabited aK:=⟨⟨0,0,0,0⟩⟩
theorem NU(x:aK):(tC x).length=4:=rfl
theorem oL(x:aK):∀v∈tC x,v.oneCell'=true:=by intro v hv;simp [tC]at hv;rcases hv with rfl|rfl|rfl|rfl<;>rfl
theorem K2(m:World)(S:List Nat)(v:Value)(l:List aK)(h:Ev.Own m S 122 4 v l.length (l.flatMap tC))(hl:l.length<1000000000):
  dg Tryz.prog 170 [v,.func (.func 171) #[] #[]] m fun r m'=>r=.tuple #[]∧Ext m S m'∧∃l':List aK,l'.Perm l∧l'.Pairwise aK.le∧Ev.Own m' S 122 4 v l'.length (l'.flatMap tC):=by
 refine dg.mono (nD Tryz.Tn 4 J9 Tryz.isAgg122 Tryz.sizeOf122 tC NU oL Rb Wv 171 ⟨_,Tryz.func171,J7,J7⟩ ⟨_,Tryz.func170,J7,J7⟩ (fun W x y=>OK W x y) h J9) ?_;rintro r m' ⟨rfl,hE,l',h1,h2,h3⟩;refine ⟨rfl,hE,l',h1,h2.imp (fun{a b} sM=>?_),h3⟩;rw [←vR,nQ]at sM;simp only [aK.le];omega
open Go.ChangeShapes Go.WideShapes Go.ChangeAt
theorem NV(m:World)(v u:Value){a b:List aG}(h:Rs m [] v a)(h':Rs m [] u b){p q:Nat}(ha:a.length≤p)(hb:b.length≤q)(hpq:p+q<100000000):dg Tryz.prog 125 [v,u] m fun r m'=>Made m r (join a b) m':=Ow m v u a b h h' J9
abbrev df(S:List Nat)(v:Value)(l:List aG):az:=aF S 167 3 v l.length (l.flatMap rC)
theorem Made.tr{m0 m m':World}{M0 X:List Nat}{H:List az}{r:Value}{l:List aG}(h:Made m r l m')(hS:Tr m0 M0 X m H):∃S,Tr m0 M0 X m' (df S r l::H):=by
 obtain ⟨S,h1,h2⟩:=h;exact ⟨S,hS.made h1 h2⟩
theorem CU(S1 S2:List Nat)(v u:Value)(a b:List aG)(Qj:a.length<500000000)(U7:b.length<500000000)(hl:a.length*(b.length+1)<100000000):bu Tryz.prog 123 [v,u] [df S1 v a,df S2 u b] (fun r H=>∃S,H=[df S r (minus a b),df S1 v a,df S2 u b]):=by
 intro m X hS;refine (KI m v u a b (Ev.Own.sl (show Ev.Own m S1 167 3 v a.length (a.flatMap rC) from hS.mem (A:=df S1 v a) YA) YA) (Ev.Own.sl (show Ev.Own m S2 167 3 u b.length (b.flatMap rC) from hS.mem (A:=df S2 u b) YA) YA) Qj U7 hl).mono ?_;intro r m' h;obtain ⟨S,h⟩:=h.tr hS;exact ⟨_,⟨S,rfl⟩,h⟩
theorem Fy(S1 S2:List Nat)(v u:Value)(a b:List aG)(hl:a.length+b.length<100000000):bu Tryz.prog 125 [v,u] [df S1 v a,df S2 u b] (fun r H=>∃S,H=[df S r (join a b),df S1 v a,df S2 u b]):=by
 intro m X hS;refine (NV m v u (Ev.Own.sl (show Ev.Own m S1 167 3 v a.length (a.flatMap rC) from hS.mem (A:=df S1 v a) YA) YA) (Ev.Own.sl (show Ev.Own m S2 167 3 u b.length (b.flatMap rC) from hS.mem (A:=df S2 u b) YA) YA) (yP _) (yP _) hl).mono ?_;intro r m' h;obtain ⟨S,h⟩:=h.tr hS;exact ⟨_,⟨S,rfl⟩,h⟩
theorem kv(m:World)(v:Value)(l:List aG)(h:Rs m [] v l)(hl:l.length<1000000000):dg Tryz.prog 89 [v] m fun r m'=>(∀M,(∀k∈M,k<m.heap.size)→Rs m' M r l)∧Ext m [] m'∧r.oneCell'=true:=by
 obtain ⟨A,c,rfl,_,_⟩:=h.shape;refine aP.zA Tryz.func89 ?_;refine af5 ?_;refine WP.cond rfl (fun hc=>?_) (fun hc=>?_)
 ·have hA:A=none:=by simpa using hc
  subst hA;have n5:l=[]:=by
   rcases l with _|⟨x,l⟩
   ·rfl
   ·obtain ⟨ad,hh,_⟩:=h.cell 0 YA;cases hh
  subst n5;refine ab5 ?_;exact QN.aj rfl rfl ⟨_,rfl,(fun M _=>Sl.nil _ _ _),Ext.refl _ _,rfl⟩
 ·refine ab7 ?_;refine RL.AQ aa rfl rfl (fun b1 m1 Ew ph=>⟨_,rfl,?_⟩);have dd:Ext m [] m1:=ph;have Yg:Sl m1 [] 3 (.slice A l.length c) (l.flatMap rC):=h.bQ dd;refine RL.A1 aa rfl ?_;refine RL.append aa (Own.empty _ _ _ _) (l.flatMap rC) (Src.cS Yg) rfl rfl rfl rfl rfl (fH l) (mU l) Jy (by show(0+_)*24≤_;omega) ?_;intro v2 m2 S2 gJ bM TI;refine ⟨_,rfl,?_⟩;rw [zU,yC]at gJ;refine RL.A1 aa rfl ?_;refine RL.N1 (YE ?_);refine WP.ret (YI ?_);exact QN.aj rfl rfl ⟨_,rfl,(fun M hM=>gJ.sl (fun k hk Y1=>by
   have h8:=hM k Y1;have h9:=dd.size;rcases TI k hk with h7|h7
   ·cases h7
   ·omega)),dd.trans bM YA,gJ.one⟩
end Go.Proofs.YtgpgladbdoimdaaGreatDoor
