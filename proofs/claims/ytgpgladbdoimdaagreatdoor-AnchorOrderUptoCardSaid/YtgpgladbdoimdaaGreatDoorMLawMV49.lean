/- Texts that belong together. -/
import Derived.Test.YtgpgladbdoimdaaGreatDoorMLawMV47
import Derived.Test.YtgpgladbdoimdaaGreatDoorMLawMV48
namespace Go.Proofs.YtgpgladbdoimdaaGreatDoor
open Go.ChangeShapes Go.WideShapes Go.ChangeAt Go.RowKit Go.Ev Go.Ids Go.SeqP
set_option maxRecDepth 20000
set_option maxHeartbeats 12000000
def u4(n:Nat):List Value:=[.int .u32 n]
theorem oJ(n:Nat):(u4 n).length=1:=rfl
abbrev oa(bh:Nat)(hs:List Nat)(w:Nat):az:=aF [bh] 3 1 (.slice (some ⟨bh,0,none⟩) w w) w (hs.flatMap hC)
abbrev mq(Sd:List Nat)(vd:Value)(D:List Dw)(w:Nat):az:=aF Sd 25 1 vd w (D.flatMap Fh)
abbrev rO(So:List Nat)(vo:Value)(l:List Uv):az:=aF So 58 2 vo l.length (l.flatMap BO)
abbrev lj(So:List Nat)(vo:Value)(l:List Uv)(Sd:List Nat)(vd:Value)(D:List Dw)(bh:Nat)(hs:List Nat)(v:Value)(ls:List Nat)(w:Nat)(F:List az):List az:=
 rO So vo l::mq Sd vd D w::oa bh hs w::ey 22 (mO l)::ey 4 (mI l)::bW 1 v (ls.flatMap u4)::F
theorem Nj(wr:Nat)(hw:wr≤3)(v:Value)(ls:List Nat)(hl:ls.length≤50)(Oa:∀n∈ls,n<4294967296):bu Tryz.prog 35 [.int .i64 ((wr+1:Nat):Int),v] [bW 1 v (ls.flatMap u4)]
  (fun r H=>∃(vo vd:Value) (l:List Uv) (So:List Nat),r=.tuple #[vo,vd]∧l.length≤50∧jY (ez l)∧H=[rO So vo l,ey 22 (mO l),ey 4 (mI l)]):=by
 intro m0 X hS;obtain ⟨M0,bR⟩:=zP (au [bW 1 v (ls.flatMap u4)]);rw [←bR]at hS ⊢;obtain ⟨A,c,rfl,_,_,hA⟩:=Sl.gY u4 oJ (hS.bE (show bW 1 v (ls.flatMap u4)∈_ from JQ)) J8;refine aP.zA Tryz.func35 ?_;refine ah ?_;refine RL.makeSlice (k:=wr+1) aa rfl rfl rfl rfl rfl rfl rfl (Nat.succ_pos _) J9 (by show 8*_≤_;omega) (fun bh m' Zo hCh=>⟨_,rfl,?_⟩);have hS:=Tr.rF (sz:=1) (nn:=wr+1) (cap:=wr+1) (hS.alloc hCh Zo) (yP _) Jy YA;rw [yD YA,show List.replicate (wr+1) (Value.int .i64 0)=(List.replicate (wr+1) 0).flatMap hC by
  generalize wr+1=q
  induction q with
  |zero=>rfl
  |succ q ih=>rw [List.replicate_succ,List.replicate_succ,vH,←ih];rfl]at hS
 have hS:=hS.empty 25 1 none;refine ah ?_;refine (WP.eo (X:=Nat×List Dw×Value×List Nat) (fun z=>[(0,.int .i64 ((wr+1:Nat):Int)),(1,.slice A ls.length c),(6,z.2.2.1),(7,.slice none 0 0),(8,.slice (some ⟨bh,0,none⟩) (wr+1) (wr+1)),(9,.int .i64 z.1)])
  (fun z m'=>z.1≤wr+1∧z.2.1.length=z.1∧(∀w∈z.2.1,w.x=C0)∧Tr m0 M0 X m' (mq z.2.2.2 z.2.2.1 z.2.1 z.2.1.length::oa bh (List.replicate (wr+1) 0) (wr+1)::bW 1 (.slice A ls.length c) (ls.flatMap u4)::z.2.1.map Dw.A))
  (fun z m'=>z.2.1.length=wr+1∧(∀w∈z.2.1,w.x=C0)∧Tr m0 M0 X m' (mq z.2.2.2 z.2.2.1 z.2.1 (wr+1)::oa bh (List.replicate (wr+1) 0) (wr+1)::bW 1 (.slice A ls.length c) (ls.flatMap u4)::z.2.1.map Dw.A))
  (fun z=>wr+1-z.1) (0,[],.slice none 0 0,[]) 0 JT ⟨yI _,rfl,(fun _ h=>by cases h),hS⟩ ?_ ?_)
 ·clear hS;rintro ⟨i,D,vd,Sd⟩ m ⟨hi,hD,hx,hS⟩;dsimp only at hi hD hx hS ⊢;refine ah ?_;rcases xA i (wr+1)with aM|fW
  ·rw [zW (show(i:Int)<((wr+1:Nat):Int) by omega)];refine ah ?_;refine RL.cM CO ?_;clear hS;rintro _ m _ ⟨d,S,rfl,rfl⟩ hS;simp only [zC,zN]at hS;refine aa1 ?_;refine RL.dh aa hS [.tmp 23] (us:=[pA d]) [pA d] rfl rfl rfl rfl rfl rfl rfl rfl rfl rfl (.tail .head) JO JO Jy (by show(_+1)*8≤_;omega) ?_;clear hS;intro b9 v' m S9 hS;rw [show D.flatMap Fh++[pA d]=(D++[(⟨d,S,C0⟩:Dw)]).flatMap Fh by simp [List.flatMap_append,Fh],show D.length+1=(D++[(⟨d,S,C0⟩:Dw)]).length by simp]at hS;refine aa7 ?_;rw [ag ((i:Int)+1) J9 J9,show(i:Int)+1=((i+1:Nat):Int) by omega];refine QN.round (i+1,D++[⟨d,S,C0⟩],v',S9) JT ⟨aM,by simp [hD],fun w hw=>?_,?_⟩ J0
   ·rcases yL.1 hw with h|h
    ·exact hx w h
    ·rw [zT]at h;rw [h]
   ·dsimp only;rw [uJ];exact hS.perm (.cons _ (xI (l₁:=[cN S d C0]) (l₂:=_::_::D.map Dw.A)))
  ·rw [zV (show¬(i:Int)<((wr+1:Nat):Int) by omega)];refine ah ?_;have:i=wr+1:=by omega
   subst this;exact QN.du (wr+1,D,vd,Sd) JT ⟨hD,hx,by rw [hD]at hS;exact hS⟩
 ·clear hS;rintro ⟨i0,D0,vd,Sd⟩ m ⟨Xs,Qf,hS⟩;dsimp only at Xs Qf hS ⊢;refine QN.bx ?_;have hS:=hS.empty 58 2 none;have hS:=(hS.s8 (sz:=4) (ps:=[]) (qs:=mI []) J8 (fun _ h=>by cases h)).s8 (sz:=22) (ps:=[]) (qs:=mO []) J8 (fun _ h=>by cases h);have hS:Tr m0 M0 X _ (lj [] (.slice none 0 0) [] Sd vd D0 bh (List.replicate (wr+1) 0) (.slice A ls.length c) ls (wr+1) (D0.map Dw.A)):=hS.perm ((xI (l₁:=[ey 22 (mO []),ey 4 (mI [])]) (l₂:=[_,_,_])).append_right (_::D0.map Dw.A));obtain ⟨gd,cd,Qz,rfl,_,_⟩:=hS.dG (show mq Sd vd D0 (wr+1)∈_ from JQ) (Nat.succ_pos _);subst Qz;have Oq:LI (wr+1) 0 [] (List.replicate (wr+1) 0) D0:=LI.start Xs Qf;refine ah ?_;refine (WP.eo (X:=Nat×List Uv×Value×List Nat×List Nat×List Dw) (fun z=>[(0,.int .i64 ((wr+1:Nat):Int)),(1,.slice A ls.length c),(6,.slice (some ⟨gd,0,none⟩) (wr+1) cd),(7,z.2.2.1),(8,.slice (some ⟨bh,0,none⟩) (wr+1) (wr+1)),(10,.int .i64 z.1)])
   (fun z m'=>z.1≤ls.length∧LI (wr+1) z.1 (ez z.2.1) z.2.2.2.2.1 z.2.2.2.2.2∧Tr m0 M0 X m' (lj z.2.2.2.1 z.2.2.1 z.2.1 [gd] (.slice (some ⟨gd,0,none⟩) (wr+1) cd) z.2.2.2.2.2 bh z.2.2.2.2.1 (.slice A ls.length c) ls (wr+1) ((z.2.2.2.2.2).map Dw.A)))
   (fun z m'=>z.2.1.length≤50∧jY (ez z.2.1)∧Tr m0 M0 X m' (lj z.2.2.2.1 z.2.2.1 z.2.1 [gd] (.slice (some ⟨gd,0,none⟩) (wr+1) cd) z.2.2.2.2.2 bh z.2.2.2.2.1 (.slice A ls.length c) ls (wr+1) ((z.2.2.2.2.2).map Dw.A)))
   (fun z=>ls.length-z.1) (0,[],.slice none 0 0,[],List.replicate (wr+1) 0,D0) 2 JT ⟨yI _,Oq,hS⟩ ?_ ?_)
  ·clear hS;rintro ⟨i,l,vo,So,hs,D⟩ m ⟨hi,hI,hS⟩;dsimp only at hi hI hS ⊢;have TN:(ez l).length=l.length:=by rw [ez,uF]
   have pY:=hI.li;rw [TN]at pY;obtain ⟨Ao,co,rfl,Yo,_,Wn⟩:=Sl.gY BO lE (hS.aW (show rO So vo l∈_ from JQ)) J8;refine ah ?_;rcases xA i ls.length with aM|fW
   ·rw [zW (show(i:Int)<(ls.length:Int) by omega)];obtain ⟨nv,Qg⟩:=zQ aM;have WN:=Oa nv (xU Qg);obtain ⟨ad,rfl⟩:=hA i nv Qg;obtain ⟨k,hk⟩:=zP (nv/2^28%(wr+1));have zp:k<wr+1:=by rw [hk];exact vP _ (Nat.succ_pos _)
    refine ah ?_;refine RL.kh aa u4 oJ (hS.bE (show bW 1 (.slice (some ad) ls.length c) (ls.flatMap u4)∈_ from JQ)) Qg 0 rfl rfl rfl YB rfl rfl rfl ?_;refine aZ ?_;rw [jk nv 28 rfl,ag ((nv/2^28:Nat):Int) J9 J9];refine aZ ?_;rw [ij (nv/2^28) (wr+1),←hk];refine aZ ?_;refine RL.N1 ?_;refine QN.N1 ?_;refine WP.cut (X:=List Nat×List Dw) (fun z=>[(0,.int .i64 ((wr+1:Nat):Int)),(1,.slice (some ad) ls.length c),(6,.slice (some ⟨gd,0,none⟩) (wr+1) cd),(7,.slice Ao l.length co),(8,.slice (some ⟨bh,0,none⟩) (wr+1) (wr+1)),(10,.int .i64 i),(11,.int .i64 k)])
     (fun z m'=>LI (wr+1) i (ez l) z.1 z.2∧Tr m0 M0 X m' (lj So (.slice Ao l.length co) l [gd] (.slice (some ⟨gd,0,none⟩) (wr+1) cd) z.2 bh z.1 (.slice (some ad) ls.length c) ls (wr+1) ((z.2).map Dw.A))) ?_ ?_
    ·refine ah ?_;refine RL.kh aa u4 oJ (hS.bE (show bW 1 (.slice (some ad) ls.length c) (ls.flatMap u4)∈_ from JQ)) Qg 0 rfl rfl rfl YB rfl rfl rfl ?_;refine ah ?_;cases hq:((((nv:Int)).fdiv (2^iv IntKind.u32 27)).tmod 4==0)with
     |false=>
      refine ah ?_;exact QN.ar (hs,D) JT ⟨hI,hS⟩
     |true=>
      refine ah ?_;have WC:=hI.hl;have PW:=hI.dl;obtain ⟨z,hz⟩:∃z,hs[k]?=some z:=⟨_,xW J9⟩;have FG:=hI.h k z hz;rw [TN]at FG;obtain ⟨tz,YN⟩:=zP (z+nv%(l.length-z+1));have Zc:tz≤l.length:=by have h9:nv%(l.length-z+1)<l.length-z+1:=vP _ (Nat.succ_pos _);omega
      refine ad8 ?_;refine RH.kh aa ai.calm hC oA (JS.aW (show oa bh hs (wr+1)∈_ from JQ)) hz 0 rfl rfl J7 rfl rfl rfl YB rfl rfl rfl ?_;refine aZ ?_;refine RH.kh aa ai.calm u4 oJ (JS.bE (show bW 1 (.slice (some ad) ls.length c) (ls.flatMap u4)∈_ from JQ)) Qg 0 rfl rfl J7 rfl rfl rfl YB rfl rfl rfl ?_;refine aZ ?_;refine RH.kh aa ai.calm hC oA (JS.aW (show oa bh hs (wr+1)∈_ from JQ)) hz 0 rfl rfl J7 rfl rfl rfl YB rfl rfl rfl ?_;refine aZ ?_;rw [ag (nv:Int) J9 J9,ag ((l.length:Int)-(z:Int)) J9 J9,ag ((l.length:Int)-(z:Int)+1) J9 J9,show(l.length:Int)-(z:Int)+1=((l.length-z+1:Nat):Int) by omega];refine aZ ?_;rw [ij nv (l.length-z+1),ag ((z:Int)+((nv%(l.length-z+1):Nat):Int)) J9 J9,show(z:Int)+((nv%(l.length-z+1):Nat):Int)=(tz:Int) by omega];refine ah ?_;refine (WP.eo (X:=List Nat×List Dw) (fun s=>[(0,.int .i64 ((wr+1:Nat):Int)),(1,.slice (some ad) ls.length c),(6,.slice (some ⟨gd,0,none⟩) (wr+1) cd),(7,.slice Ao l.length co),(8,.slice (some ⟨bh,0,none⟩) (wr+1) (wr+1)),(10,.int .i64 i),(11,.int .i64 k),(12,.int .i64 tz)])
       (fun s m'=>LI (wr+1) i (ez l) s.1 s.2∧Tr m0 M0 X m' (lj So (.slice Ao l.length co) l [gd] (.slice (some ⟨gd,0,none⟩) (wr+1) cd) s.2 bh s.1 (.slice (some ad) ls.length c) ls (wr+1) (s.2.map Dw.A)))
       (fun s m'=>LI (wr+1) i (ez l) s.1 s.2∧Tr m0 M0 X m' (lj So (.slice Ao l.length co) l [gd] (.slice (some ⟨gd,0,none⟩) (wr+1) cd) s.2 bh s.1 (.slice (some ad) ls.length c) ls (wr+1) (s.2.map Dw.A)))
       (fun s=>tz-s.1.getD k 0) (hs,D) 4 JT ⟨hI,hS⟩ ?_ ?_)
      ·clear hS hI hz FG YN WC PW;rintro ⟨hs,D⟩ m ⟨hI,hS⟩;dsimp only at hI hS ⊢;have WC:=hI.hl;have PW:=hI.dl;obtain ⟨z,hz⟩:∃z,hs[k]?=some z:=⟨_,xW J9⟩;obtain ⟨w,hw⟩:∃w,D[k]?=some w:=⟨_,xW J9⟩;have FG:=hI.h k z hz;rw [TN]at FG;refine ah ?_;refine RL.kh aa hC oA (hS.aW (show oa bh hs (wr+1)∈_ from JQ)) hz 0 rfl rfl rfl YB rfl rfl rfl ?_;refine ah ?_;rcases xA z tz with O2|Sa
       ·rw [zW (show(z:Int)<(tz:Int) by omega)];refine ah ?_;obtain ⟨y,hy⟩:∃y,l[z]?=some y:=⟨_,xW J9⟩;have IP:(ez l)[z]?=some y.u:=by rw [ez,xM,hy];rfl
        have Wd:=hI.r z y.u IP;obtain ⟨ao,rfl⟩:=Wn z y hy;have hx:=hI.x k z w hz hw;have hS:=hS.perm (show(lj So (.slice (some ao) l.length co) l [gd] (.slice (some ⟨gd,0,none⟩) (wr+1) cd) D bh hs (.slice (some ad) ls.length c) ls (wr+1) (D.map Dw.A)).Perm (cN w.S w.d w.x::lj So (.slice (some ao) l.length co) l [gd] (.slice (some ⟨gd,0,none⟩) (wr+1) cd) D bh hs (.slice (some ad) ls.length c) ls (wr+1) ((D.eraseIdx k).map Dw.A)) from
         ((DM hw).append_left [_,_,_,_,_,_]).trans (vU (l₁:=[_,_,_,_,_,_])))
        have hS:=(hS.mf (show ey 22 (mO l)∈_ from JQ) (lI hy).1).mf (show ey 4 (mI l)∈_ from zO _ JQ) (lI hy).2;refine WP.bG [mq [gd] (.slice (some ⟨gd,0,none⟩) (wr+1) cd) D (wr+1),oa bh hs (wr+1),rO So (.slice (some ao) l.length co) l] hS JH J7 ?_;refine aZ ?_;refine RH.kh aa ai.calm Fh qe (JS.aW (show mq [gd] (.slice (some ⟨gd,0,none⟩) (wr+1) cd) D (wr+1)∈_ from JQ)) hw 0 rfl rfl J7 rfl rfl rfl YB rfl rfl rfl ?_;refine aZ ?_;refine RH.kh aa ai.calm hC oA (JS.aW (show oa bh hs (wr+1)∈_ from JQ)) hz 0 rfl rfl J7 rfl rfl rfl YB rfl rfl rfl ?_;refine aZ ?_;refine RH.fg aa ai.calm BO lE (JS.aW (show rO So (.slice (some ao) l.length co) l∈_ from JQ)) hy 0 (BO y) rfl rfl rfl J7 rfl rfl rfl YB rfl rfl rfl ?_;refine aZ ?_;refine RH.cM (o5 w.S w.d w.x (i+z) hx.s J9 hx.w y.vo y.vt y.u.os y.u.ts Wd.ol (tX (x':=w.x) hI.r IP hx).1 Wd.tl (fun T' hT=>hx.may Wd.cv hT)) ?_;clear hS;rintro _ m _ ⟨rfl,S7,x',ha,Zl,rfl⟩ hS;simp only [zC,zN]at hS ⊢;refine ⟨JH,_,rfl,?_⟩;refine ah ?_;refine RL.kh aa hC oA (hS.aW (show oa bh hs (wr+1)∈_ from JQ)) hz 0 rfl rfl rfl YB rfl rfl rfl ?_;refine ah ?_;rw [ag ((z:Int)+1) J9 J9,show(z:Int)+1=((z+1:Nat):Int) by omega];refine RL.rq aa hS (xs:=hs.flatMap hC) (i:=0+k*1) JN J9 rfl (show some (Value.pointer (some ((⟨bh,0,none⟩:Addr).add (k*1))))=some (Value.pointer (some ⟨bh,0+k*1,none⟩)) from by rw [av]) rfl rfl rfl rfl ?_
        (try clear hS);intro m hS
        rw [show 0+k*1=k*1+0 by omega,nB hC oA hs k z (z+1) 0 _ hz J8 rfl]at hS;refine ah ?_;have gN:=we (w':=⟨w.d,S7,x'⟩) hw rfl;have hS:=(hS.aH (Pre:=cN S7 w.d x'::[rO So (.slice (some ao) l.length co) l,mq [gd] (.slice (some ⟨gd,0,none⟩) (wr+1) cd) D (wr+1),oa bh (hs.set k (z+1)) (wr+1),ey 22 (mO l),ey 4 (mI l),bW 1 (.slice (some ad) ls.length c) (ls.flatMap u4)]) JC);have hS:=dp (w':=⟨w.d,S7,x'⟩) hw (P:=[rO So (.slice (some ao) l.length co) l,mq [gd] (.slice (some ⟨gd,0,none⟩) (wr+1) cd) D (wr+1),oa bh (hs.set k (z+1)) (wr+1),ey 22 (mO l),ey 4 (mI l),bW 1 (.slice (some ad) ls.length c) (ls.flatMap u4)]) (G:=[_,_,_,_,_,_,_]) hS;have hS:Tr m0 M0 X m (lj So (.slice (some ao) l.length co) l [gd] (.slice (some ⟨gd,0,none⟩) (wr+1) cd) (D.set k ⟨w.d,S7,x'⟩) bh (hs.set k (z+1)) (.slice (some ad) ls.length c) ls (wr+1) ((D.set k ⟨w.d,S7,x'⟩).map Dw.A)):=by simpa only [lj,mq,gN,zC,zN]using hS
        refine QN.round (hs.set k (z+1),D.set k ⟨w.d,S7,x'⟩) JT ⟨hI.Vf hz hw IP ha,hS⟩ ?_;dsimp only;have e1:hs.getD k 0=z:=by rw [uB,hz];rfl
        have e2:(hs.set k (z+1)).getD k 0=z+1:=by rw [uB,List.getElem?_set_self J9];rfl
        omega
       ·rw [zV (show¬(z:Int)<(tz:Int) by omega)];refine ah ?_;exact QN.du (hs,D) JT ⟨hI,hS⟩
      ·clear hS;rintro ⟨hs,D⟩ m ⟨hI,hS⟩;dsimp only at hI hS ⊢;refine QN.bx ?_;refine ah ?_;exact QN.ar (hs,D) JT ⟨hI,hS⟩
    ·clear hS hI;rintro ⟨hs,D⟩ m ⟨hI,hS⟩;dsimp only at hI hS ⊢;have WC:=hI.hl;have PW:=hI.dl;obtain ⟨z,hz⟩:∃z,hs[k]?=some z:=⟨_,xW J9⟩;obtain ⟨w,hw⟩:∃w,D[k]?=some w:=⟨_,xW J9⟩;have FG:=hI.h k z hz;rw [TN]at FG;have hx:=hI.x k z w hz hw;have Fs:w.x.q.us.length≤1000000:=by have:=hx.s.q;omega
     have Ob:w.x.D.length≤1000000:=by have:=hx.s.D;omega
     have hS:=hS.perm (show(lj So (.slice Ao l.length co) l [gd] (.slice (some ⟨gd,0,none⟩) (wr+1) cd) D bh hs (.slice (some ad) ls.length c) ls (wr+1) (D.map Dw.A)).Perm (cN w.S w.d w.x::lj So (.slice Ao l.length co) l [gd] (.slice (some ⟨gd,0,none⟩) (wr+1) cd) D bh hs (.slice (some ad) ls.length c) ls (wr+1) ((D.eraseIdx k).map Dw.A)) from
      ((DM hw).append_left [_,_,_,_,_,_]).trans (vU (l₁:=[_,_,_,_,_,_])))
     refine ah ?_;refine WP.KK (X:=Nat×Int×Value×Value×List a6×List aK×List Nat) (fun q=>[(0,.int .i64 ((wr+1:Nat):Int)),(1,.slice (some ad) ls.length c),(6,.slice (some ⟨gd,0,none⟩) (wr+1) cd),(7,.slice Ao l.length co),(8,.slice (some ⟨bh,0,none⟩) (wr+1) (wr+1)),(10,.int .i64 i),(11,.int .i64 k),(13,pA q.1),(14,.int .i64 q.2.1)])
      (fun q m'=>(q.2.1=0→∃e,H6 w.x (k+1) e q.2.2.2.2.1 q.2.2.2.2.2.1)∧Tr m0 M0 X m' (ab q.1 58 [q.2.2.1,q.2.2.2.1]::dO q.2.2.1 q.2.2.2.2.1::gh q.2.2.2.1 q.2.2.2.2.2.1::cN q.2.2.2.2.2.2 w.d w.x::lj So (.slice Ao l.length co) l [gd] (.slice (some ⟨gd,0,none⟩) (wr+1) cd) D bh hs (.slice (some ad) ls.length c) ls (wr+1) ((D.eraseIdx k).map Dw.A))) ?_ ?_
     ·refine WP.bG [mq [gd] (.slice (some ⟨gd,0,none⟩) (wr+1) cd) D (wr+1),bW 1 (.slice (some ad) ls.length c) (ls.flatMap u4)] hS JH J7 ?_;refine ae0 ?_;refine RH.kh aa ai.calm Fh qe (JS.aW (show mq [gd] (.slice (some ⟨gd,0,none⟩) (wr+1) cd) D (wr+1)∈_ from JQ)) hw 0 rfl rfl J7 rfl rfl rfl YB rfl rfl rfl ?_;refine aZ ?_;refine RH.kh aa ai.calm u4 oJ (JS.bE (show bW 1 (.slice (some ad) ls.length c) (ls.flatMap u4)∈_ from JQ)) Qg 0 rfl rfl J7 rfl rfl rfl YB rfl rfl rfl ?_;refine aZ ?_;rw [ag ((k:Int)+1) J9 J9,aq ((k:Int)+1) J9 J9,show(k:Int)+1=((k+1:Nat):Int) by omega]
      repeat' (first
       |refine RH.oc 60 eS ai.calm rfl J7 rfl ?_
       |refine RH.oc 1 eS ai.calm rfl J7 rfl ?_
       |refine RH.two rfl J7 rfl rfl ?_ ?_
       |refine RH.one rfl J7 rfl ?_
       |(refine RL.cM (KH w.S w.d w.x hx.q Fs Ob nv WN) ?_;clear hS;rintro _ m _ ⟨e,vp,path,S5,rfl,he,A0,rfl⟩ hS;simp only [zC,zN]at hS;refine ⟨_,rfl,?_⟩;refine RL.N1 (RH.aD hS JH ?_))
       |(refine RL.cM (II S5 w.d w.x (i+z) hx.s J9 hx.i (k+1) ⟨J9,J9⟩ e he vp path J9) ?_;clear hS;rintro _ m _ ⟨ev,vo',vt',os,ts,S6,rfl,Y5,X2,rfl⟩ hS;simp only [zC,zN]at hS;obtain ⟨Ax,cx,rfl,_,_,_⟩:=Sl.gY oC bP (hS.bE (show dO vo' os∈_ from JQ)) J8;obtain ⟨Ay,cy,rfl,_,_,_⟩:=Sl.gY tC xn (hS.bE (show gh vt' ts∈_ from JQ)) J8;refine ⟨_,rfl,?_⟩;refine RL.N1 (RH.aD hS JH ?_))
       |(refine RL.aU aa rfl hS rfl rfl ?_;clear hS;intro b13 m hS;refine ⟨_,rfl,?_⟩;refine RL.N1 (RH.aD hS JH ?_))
       |(refine RL.er aa hS rfl rfl rfl rfl rfl YB YB JN YB ?_;clear hS;intro m hS;refine RL.N1 (RH.aD hS JH ?_)))
      all_goals (refine RH.stop YB (QN.calm ?_))
      all_goals (refine QN.ar (b13,ev,.slice Ax os.length cx,.slice Ay ts.length cy,os,ts,S6) JT ⟨fun h=>⟨e,Y5 h⟩,?_⟩)
      all_goals dsimp only
      all_goals have hS:=hS.aH (Pre:=[ab b13 58 [.slice Ax os.length cx,.slice Ay ts.length cy],dO (.slice Ax os.length cx) os,gh (.slice Ay ts.length cy) ts,cN S6 w.d w.x,rO So (.slice Ao l.length co) l,mq [gd] (.slice (some ⟨gd,0,none⟩) (wr+1) cd) D (wr+1),oa bh hs (wr+1),ey 22 (mO l),ey 4 (mI l),bW 1 (.slice (some ad) ls.length c) (ls.flatMap u4)]) JC
      all_goals first
       |exact lF (A:=_) (T:=[_,_,_,_,_,_]) hS
       |exact lF (A:=_) (T:=[_,_,_,_,_,_,_]) hS
       |exact lF (A:=_) (T:=[_,_,_,_,_]) hS
       |exact lF (A:=_) (T:=[_,_,_,_,_,_,_,_]) hS
     ·clear hS;rintro ⟨b13,ev,vo',vt',os,ts,S6⟩ m ⟨PT,hS⟩;dsimp only at PT hS ⊢;obtain ⟨Ax,cx,rfl,_,_,_⟩:=Sl.gY oC bP (hS.bE (show dO vo' os∈_ from JQ)) J8;obtain ⟨Ay,cy,rfl,_,_,_⟩:=Sl.gY tC xn (hS.bE (show gh vt' ts∈_ from JQ)) J8;refine ah ?_
      by_cases PX:ev=0
      ·subst PX;obtain ⟨e,hm⟩:=PT rfl;obtain ⟨u1,u2,u3⟩:=th hx hm;refine ah ?_;refine WP.bG [ab b13 58 [.slice Ax os.length cx,.slice Ay ts.length cy],mq [gd] (.slice (some ⟨gd,0,none⟩) (wr+1) cd) D (wr+1)] hS JH J7 ?_;refine ae0 ?_;refine RH.cM (o5 S6 w.d w.x (i+z) hx.s J9 hx.w (.slice Ax os.length cx) (.slice Ay ts.length cy) os ts u2.ol (hx.fresh (x':=w.x) u2).1 u2.tl (fun T' hT=>hx.may u2.cv hT)) ?_;clear hS;rintro _ m _ ⟨rfl,S7,x',ha,Zl,rfl⟩ hS;simp only [zC,zN]at hS ⊢;refine ⟨JH,_,rfl,?_⟩;refine ah ?_;refine RL.dh aa hS [.tmp 119] (us:=[.agg #[.slice Ax os.length cx,.slice Ay ts.length cy]]) [.slice Ax os.length cx,.slice Ay ts.length cy] rfl rfl rfl rfl rfl rfl rfl rfl rfl rfl JX JO (by intro u hu;simp only [yH,uT,uU]at hu;rcases hu with rfl|rfl<;>rfl) Jy (by show(_+1)*48≤_;omega) ?_;clear hS;intro b9 v9 m S9 hS;obtain ⟨y,hy⟩:=zP (⟨.slice Ax os.length cx,.slice Ay ts.length cy,⟨os,ts⟩⟩:Uv);rw [show l.flatMap BO++[.slice Ax os.length cx,.slice Ay ts.length cy]=(l++[y]).flatMap BO by simp [List.flatMap_append,BO,hy],show l.length+1=(l++[y]).length by simp]at hS;have hS:=hS.s8 (sz:=22) (ps:=mO l) (qs:=mO (l++[y])) J8 (fun q hq=>by
        rw [mO,uJ,yL]at hq;rcases hq with h|h
        ·exact .inr ⟨h,JQ⟩
        ·rw [List.map_singleton,zT]at h;rw [h,hy];exact .inl JQ)
       have hS:=hS.s8 (sz:=4) (ps:=mI l) (qs:=mI (l++[y])) J8 (fun q hq=>by
        rw [mI,uJ,yL]at hq;rcases hq with h|h
        ·exact .inr ⟨h,JQ⟩
        ·rw [List.map_singleton,zT]at h;rw [h,hy];exact .inl JQ)
       refine aa7 ?_;rw [ag ((i:Int)+1) J9 J9,show(i:Int)+1=((i+1:Nat):Int) by omega];have hS:=(hS.aH (Pre:=cN S7 w.d x'::[rO S9 v9 (l++[y]),mq [gd] (.slice (some ⟨gd,0,none⟩) (wr+1) cd) D (wr+1),oa bh hs (wr+1),ey 22 (mO (l++[y])),ey 4 (mI (l++[y])),bW 1 (.slice (some ad) ls.length c) (ls.flatMap u4)]) JC);have gN:=we (w':=⟨w.d,S7,x'⟩) hw rfl;have hS:Tr m0 M0 X m ([rO S9 v9 (l++[y]),mq [gd] (.slice (some ⟨gd,0,none⟩) (wr+1) cd) D (wr+1),oa bh hs (wr+1),ey 22 (mO (l++[y])),ey 4 (mI (l++[y])),bW 1 (.slice (some ad) ls.length c) (ls.flatMap u4)]++(D.set k ⟨w.d,S7,x'⟩).map Dw.A):=by
        first
        |exact dp (w':=⟨w.d,S7,x'⟩) hw (P:=[rO S9 v9 (l++[y]),mq [gd] (.slice (some ⟨gd,0,none⟩) (wr+1) cd) D (wr+1),oa bh hs (wr+1),ey 22 (mO (l++[y])),ey 4 (mI (l++[y])),bW 1 (.slice (some ad) ls.length c) (ls.flatMap u4)]) (G:=[_,_,_,_,_,_,_,_,_,_]) hS
        |exact dp (w':=⟨w.d,S7,x'⟩) hw (P:=[rO S9 v9 (l++[y]),mq [gd] (.slice (some ⟨gd,0,none⟩) (wr+1) cd) D (wr+1),oa bh hs (wr+1),ey 22 (mO (l++[y])),ey 4 (mI (l++[y])),bW 1 (.slice (some ad) ls.length c) (ls.flatMap u4)]) (G:=[_,_,_,_,_,_,_,_,_]) hS
        |exact dp (w':=⟨w.d,S7,x'⟩) hw (P:=[rO S9 v9 (l++[y]),mq [gd] (.slice (some ⟨gd,0,none⟩) (wr+1) cd) D (wr+1),oa bh hs (wr+1),ey 22 (mO (l++[y])),ey 4 (mI (l++[y])),bW 1 (.slice (some ad) ls.length c) (ls.flatMap u4)]) (G:=[_,_,_,_,_,_,_,_]) hS
        |exact dp (w':=⟨w.d,S7,x'⟩) hw (P:=[rO S9 v9 (l++[y]),mq [gd] (.slice (some ⟨gd,0,none⟩) (wr+1) cd) D (wr+1),oa bh hs (wr+1),ey 22 (mO (l++[y])),ey 4 (mI (l++[y])),bW 1 (.slice (some ad) ls.length c) (ls.flatMap u4)]) (G:=[_,_,_,_,_,_,_,_,_,_,_]) hS
        |exact dp (w':=⟨w.d,S7,x'⟩) hw (P:=[rO S9 v9 (l++[y]),mq [gd] (.slice (some ⟨gd,0,none⟩) (wr+1) cd) D (wr+1),oa bh hs (wr+1),ey 22 (mO (l++[y])),ey 4 (mI (l++[y])),bW 1 (.slice (some ad) ls.length c) (ls.flatMap u4)]) (G:=[_,_,_,_,_,_,_,_,_,_,_,_]) hS
        |exact dp (w':=⟨w.d,S7,x'⟩) hw (P:=[rO S9 v9 (l++[y]),mq [gd] (.slice (some ⟨gd,0,none⟩) (wr+1) cd) D (wr+1),oa bh hs (wr+1),ey 22 (mO (l++[y])),ey 4 (mI (l++[y])),bW 1 (.slice (some ad) ls.length c) (ls.flatMap u4)]) (G:=[_,_,_,_,_,_,_]) hS
       have hS:Tr m0 M0 X m (lj S9 v9 (l++[y]) [gd] (.slice (some ⟨gd,0,none⟩) (wr+1) cd) (D.set k ⟨w.d,S7,x'⟩) bh hs (.slice (some ad) ls.length c) ls (wr+1) ((D.set k ⟨w.d,S7,x'⟩).map Dw.A)):=by simpa only [lj,mq,gN,zC,zN]using hS
       have po:ez (l++[y])=ez l++[⟨os,ts⟩]:=by rw [ez,uJ,hy];rfl
       exact QN.round (i+1,l++[y],v9,S9,hs,D.set k ⟨w.d,S7,x'⟩) JT ⟨aM,by dsimp only;rw [po];exact hI.make hz hw hm ha,hS⟩ J0
      ·rw [show(ev !=0)=true from bne_iff_ne.2 PX];refine ah ?_;rw [ag ((i:Int)+1) J9 J9,show(i:Int)+1=((i+1:Nat):Int) by omega];have hS:=(hS.aH (Pre:=cN S6 w.d w.x::[rO So (.slice Ao l.length co) l,mq [gd] (.slice (some ⟨gd,0,none⟩) (wr+1) cd) D (wr+1),oa bh hs (wr+1),ey 22 (mO l),ey 4 (mI l),bW 1 (.slice (some ad) ls.length c) (ls.flatMap u4)]) JC);have gN:=we (w':=⟨w.d,S6,w.x⟩) hw rfl;have hS:Tr m0 M0 X m ([rO So (.slice Ao l.length co) l,mq [gd] (.slice (some ⟨gd,0,none⟩) (wr+1) cd) D (wr+1),oa bh hs (wr+1),ey 22 (mO l),ey 4 (mI l),bW 1 (.slice (some ad) ls.length c) (ls.flatMap u4)]++(D.set k ⟨w.d,S6,w.x⟩).map Dw.A):=by
        first
        |exact dp (w':=⟨w.d,S6,w.x⟩) hw (P:=[rO So (.slice Ao l.length co) l,mq [gd] (.slice (some ⟨gd,0,none⟩) (wr+1) cd) D (wr+1),oa bh hs (wr+1),ey 22 (mO l),ey 4 (mI l),bW 1 (.slice (some ad) ls.length c) (ls.flatMap u4)]) (G:=[_,_,_,_,_,_]) hS
        |exact dp (w':=⟨w.d,S6,w.x⟩) hw (P:=[rO So (.slice Ao l.length co) l,mq [gd] (.slice (some ⟨gd,0,none⟩) (wr+1) cd) D (wr+1),oa bh hs (wr+1),ey 22 (mO l),ey 4 (mI l),bW 1 (.slice (some ad) ls.length c) (ls.flatMap u4)]) (G:=[_,_,_,_,_,_,_]) hS
        |exact dp (w':=⟨w.d,S6,w.x⟩) hw (P:=[rO So (.slice Ao l.length co) l,mq [gd] (.slice (some ⟨gd,0,none⟩) (wr+1) cd) D (wr+1),oa bh hs (wr+1),ey 22 (mO l),ey 4 (mI l),bW 1 (.slice (some ad) ls.length c) (ls.flatMap u4)]) (G:=[_,_,_,_,_]) hS
        |exact dp (w':=⟨w.d,S6,w.x⟩) hw (P:=[rO So (.slice Ao l.length co) l,mq [gd] (.slice (some ⟨gd,0,none⟩) (wr+1) cd) D (wr+1),oa bh hs (wr+1),ey 22 (mO l),ey 4 (mI l),bW 1 (.slice (some ad) ls.length c) (ls.flatMap u4)]) (G:=[_,_,_,_,_,_,_,_]) hS
       have hS:Tr m0 M0 X m (lj So (.slice Ao l.length co) l [gd] (.slice (some ⟨gd,0,none⟩) (wr+1) cd) (D.set k ⟨w.d,S6,w.x⟩) bh hs (.slice (some ad) ls.length c) ls (wr+1) ((D.set k ⟨w.d,S6,w.x⟩).map Dw.A)):=by simpa only [lj,mq,gN,zC,zN]using hS
       exact QN.round (i+1,l,.slice Ao l.length co,So,hs,D.set k ⟨w.d,S6,w.x⟩) JT ⟨aM,(hI.same hw).up,hS⟩ J0
   ·rw [zV (show¬(i:Int)<(ls.length:Int) by omega)];refine ah ?_;exact QN.du (i,l,.slice Ao l.length co,So,hs,D) JT ⟨J0,hI.r,hS⟩
  ·clear hS;rintro ⟨i,l,vo,So,hs,D⟩ m ⟨hl,hr,hS⟩;dsimp only at hl hr hS ⊢;refine QN.bx ?_;refine ah ?_;exact QN.dW rfl rfl rfl ⟨_,rfl,_,⟨vo,_,l,So,rfl,hl,hr,rfl⟩,(hS.aH (Pre:=[rO So vo l,ey 22 (mO l),ey 4 (mI l)]) JB).drop⟩
end Go.Proofs.YtgpgladbdoimdaaGreatDoor
