/- Texts that belong together. -/
import Derived.Test.YtgpgladbdoimdaaGreatDoorMLawMV25
namespace Go.Proofs.YtgpgladbdoimdaaGreatDoor
open Go.ChangeShapes Go.WideShapes Go.ChangeAt Go.RowKit Go.Ev Go.Ids Go.SeqP
set_option maxRecDepth 20000
set_option maxHeartbeats 1000000
theorem Gl(v:Value)(l:List aG)(hl:l.length<1000000000)(id:aL):ee Tryz.prog 39 [v,iV id] [qk v l] (.bool (hasB l id)):=by
 intro m X hS;refine (HK m v l (Sl.less hS.head.1 (fun k hk=>by cases hk) J9) hl id).mono ?_;rintro r m' ⟨h1,h2⟩;exact ⟨_,⟨h1,rfl⟩,(hS.calm h2).tail⟩
theorem Iv(a b:a6):bu Tryz.prog 146 [oV a,oV b] [] (fun r H=>(∃q,r=.bool q)∧H=[]):=by
 intro m0 X hS;refine aP.zA Tryz.func146 ?_;refine ah ?_
 (try clear hS);intro b2 m hS;refine aa7 ?_
 (try clear hS);intro b3 m hS;refine aa7 ?_
 have fin:∀{m:World},Tr m0 (au []) X m [ab b3 55 (oC b),ab b2 55 (oC a)]→Tr m0 (au []) X m []:=fun h=>h.tail.tail
 cases h1:decide ((a.st:Int)<(b.st:Int))with
 |true=>
  exact ah3
 |false=>
  refine ah ?_;cases h2:((a.st:Int)==(b.st:Int))with
  |false=>
   exact ah3
  |true=>
   refine ah ?_;refine RL.cU (p7 a.id b.id) fun m hS=>?_
   exact ah3
theorem MQ(mm:Nat)(vl vh:Value)(ML:List a6)(MH:List aG)(L:List az)(hm:ab mm 134 [vl,vh]∈L)(hl:dO vl ML∈L)(hh:qk vh MH∈L)(ep:ML.length≤1000000)(few2:MH.length≤1000000)(p:aL)(key:List UInt8):
  bu Tryz.prog 102 [pA mm,iV p,.string (str key)] L (fun r H=>(r=.tuple #[oV ke,.bool false]∨∃o∈ML,r=.tuple #[oV o,.bool true])∧H=L):=by
 intro m0 X hS;obtain ⟨M0,bR⟩:=zP (au L);rw [←bR]at hS ⊢;have hN:=hm;obtain ⟨A,c,rfl,_,_,hA⟩:=Sl.gY oC bP (hS.bE hl) J8;refine aP.zA Tryz.func102 ?_;refine ah ?_
 (try clear hS);intro b4 m hS;refine aa7 ?_
 (try clear hS);intro b6 m hS;refine aa7 ?_
 (try clear hS);intro b8 m hS;refine aa7 ?_
 refine (WP.loop (X:=Nat×Option a6) (fun z=>[(0,pA mm),(2,.string (str key)),(4,pA b4),(6,pA b6),(8,pA b8),(9,.bool z.2.isSome),(10,.int .i64 z.1)])
  (fun z m'=>z.1≤ML.length∧(∀o,z.2=some o→o∈ML)∧Tr m0 M0 X m' (ab b8 55 (oC (z.2.getD ke))::ab b6 55 (oC ke)::ab b4 30 (iC p)::L)) (fun z=>ML.length-z.1) (0,none)
  YC ⟨yI _,fun _ h=>(by cases h),hS⟩ ?_)
 clear hS;rintro ⟨i,best⟩ m ⟨hi,hb,hS⟩;dsimp only at hi hb hS ⊢;refine ah ?_;rcases xA i ML.length with aM|fW
 ·rw [zW (show(i:Int)<(ML.length:Int) by omega)];obtain ⟨o,ho⟩:=zQ aM;have XD:=xU ho;obtain ⟨ad,rfl⟩:=hA i o ho;have hw:IntKind.i64.wrap ((i:Int)+1)=((i+1:Nat):Int):=by rw [ag _ J9 J9];simp
  refine ah ?_;refine RL.fg aa oC bP (hS.bE (zO _ (zO _ (zO _ hl)))) ho 0 (oC o) rfl rfl rfl rfl rfl rfl rfl rfl ?_;refine ah ?_
  (try clear hS);intro b11 m hS;refine aa7 ?_
  (try clear hS);intro m hS;refine ah ?_
  have hS:Tr m0 M0 X _ (ab b11 55 (oC o)::ab b8 55 (oC (best.getD ke))::ab b6 55 (oC ke)::ab b4 30 (iC p)::L):=hS;have nxt:∀{Q:Exit→Act→World→Prop} {m:World} {e:Env},Sub [(0,pA mm),(2,.string (str key)),(4,pA b4),(6,pA b6),(8,pA b8),(9,.bool best.isSome),(10,.int .i64 (i+1:Nat))] e→
    Tr m0 M0 X m (ab b11 55 (oC o)::ab b8 55 (oC (best.getD ke))::ab b6 55 (oC ke)::ab b4 30 (iC p)::L)→
    QN (Exit.then (C6 (fun z:Nat×Option a6=>[(0,pA mm),(2,.string (str key)),(4,pA b4),(6,pA b6),(8,pA b8),(9,.bool z.2.isSome),(10,.int .i64 z.1)])
     (fun z m'=>z.1≤ML.length∧(∀o,z.2=some o→o∈ML)∧Tr m0 M0 X m' (ab b8 55 (oC (z.2.getD ke))::ab b6 55 (oC ke)::ab b4 30 (iC p)::L)) (fun z=>ML.length-z.1) Tryz.f102.ntmps ⟨[],none⟩ (i,best)) Q) .normal Tryz.f102.ntmps e ⟨[],none⟩ m:=
   fun hs h=>QN.round (i+1,best) hs ⟨aM,hb,h.tail⟩ J0
  refine ae2 ?_;refine RH.bin (cX o.p p) (aY _ _ _ _ _) ?_;cases h1:decide (o.p=p)with
  |false=>
   refine ah ?_;rw [hw];exact nxt YC hS
  |true=>
  refine aZ ?_;cases h2:((str o.key).toList==(str key).toList)with
  |false=>
   refine ah ?_;rw [hw];exact nxt YC hS
  |true=>
  refine aZ ?_;refine RH.cU (Gl vh MH J9 o.id) (fun m hS=>?_) (hs:=.ro (zO _ (zO _ (zO _ (zO _ hh)))) rfl .nil);cases h3:hasB MH o.id with
  |true=>
   refine ah ?_;rw [hw];exact nxt YC hS
  |false=>
  cases best with
  |none=>
   refine ah ?_
   (try clear hS);intro m hS;refine ah ?_
   rw [hw];exact QN.round (i+1,some o) YC ⟨aM,fun x hx=>(by cases hx;exact XD),hS.tail⟩ J0
  |some b=>
  have hS:Tr m0 M0 X _ (ab b11 55 (oC o)::ab b8 55 (oC b)::ab b6 55 (oC ke)::ab b4 30 (iC p)::L):=hS;refine aZ ?_;refine RH.cM (Iv b o) ?_ (hs:=.nil);clear hS;rintro _ m _ ⟨⟨q,rfl⟩,rfl⟩ hS;simp only [yC]at hS ⊢;refine ⟨an.self _,_,rfl,?_⟩;cases q with
  |false=>
   refine ah ?_;rw [hw];exact nxt YC hS
  |true=>
   refine ah ?_
   (try clear hS);intro m hS;refine ah ?_
   rw [hw];exact QN.round (i+1,some o) YC ⟨aM,fun x hx=>(by cases hx;exact XD),hS.tail⟩ J0
 ·rw [zV (show¬(i:Int)<(ML.length:Int) by omega)];refine ah ?_;cases best with
  |none=>
   refine ah ?_
   (try clear hS);intro m hS;refine ah ?_
   exact QN.bH (bY.cg aa hS rfl rfl rfl rfl JR) ⟨_,rfl,_,⟨.inl rfl,rfl⟩,hS.tail.tail.tail⟩
  |some b=>
   have hS:Tr m0 M0 X _ (ab b8 55 (oC b)::ab b6 55 (oC ke)::ab b4 30 (iC p)::L):=hS;refine ah ?_;cases hk:((b.v.k:Int)==0)with
   |true=>
    refine ah ?_
    (try clear hS);intro m hS;refine ah ?_
    exact QN.bH (bY.cg aa hS rfl rfl rfl rfl JR) ⟨_,rfl,_,⟨.inl rfl,rfl⟩,hS.tail.tail.tail⟩
   |false=>
    refine ah ?_
    (try clear hS);intro m hS;refine ah ?_
    exact QN.bH (bY.cg aa hS rfl rfl rfl rfl JR) ⟨_,rfl,_,⟨.inr ⟨b,hb b rfl,rfl⟩,rfl⟩,hS.tail.tail.tail⟩
end Go.Proofs.YtgpgladbdoimdaaGreatDoor
