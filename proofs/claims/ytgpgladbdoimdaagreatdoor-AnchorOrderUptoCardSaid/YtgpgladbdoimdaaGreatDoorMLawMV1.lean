/- Texts that belong together. -/
import Derived.WalkKit
import Derived.TacticsIn
import Derived.Lib.Hide
import Derived.Deep.Quiet
import Derived.Sort.Statements
namespace Go
structure zHd(p:Prop):Prop where o:p
theorem aa0 {A B:Prop}(h:A)(k:zHd A→B:=by intro zz;refine RL.A1 aa rfl ?_;refine RL.N1 (YE ?_);exact zz.o):B:=k ⟨h⟩
theorem aa1 {A B:Prop}(h:A)(k:zHd A→B:=by intro zz;refine ⟨_,rfl,?_⟩;exact zz.o):B:=k ⟨h⟩
theorem aa2 {A B:Prop}(h:A)(k:zHd A→B:=by intro zz;refine RL.er aa hS rfl rfl rfl rfl rfl YB YB JN YB ?_;intro m hS;revert m hS;exact zz.o):B:=k ⟨h⟩
theorem aa3 {A B:Prop}(h:A)(k:zHd A→B:=by intro zz;refine RL.N1 (YE ?_);refine WP.ret (YI ?_);refine QN.aj rfl rfl ⟨_,rfl,xZ _ ?_,hE⟩;exact zz.o):B:=k ⟨h⟩
theorem aa4 {A B:Prop}(h:A)(k:zHd A→B:=by intro zz;refine RL.aO aa hS rfl rfl rfl rfl YB YB JN YB ?_;intro m hS;revert m hS;exact zz.o):B:=k ⟨h⟩
theorem aa5 {A B:Prop}(h:A)(k:zHd A→B:=by intro zz;refine go ?_;refine RL.bn hS rfl rfl rfl ?_;intro b1 m hS;refine aa1 ?_;refine go ?_;revert b1 m hS;exact zz.o):B:=k ⟨h⟩
theorem aa6 {A B:Prop}(h:A)(k:zHd A→B:=by intro zz;refine RL.eqv (v':=.int .i64 ((i+1:Nat):Int)) (xZ _ Jb) ?_;refine RL.A1 aa rfl ?_;exact zz.o):B:=k ⟨h⟩
theorem aa7 {A B:Prop}(h:A)(k:zHd A→B:=by intro zz;refine aa1 ?_;refine ah ?_;exact zz.o):B:=k ⟨h⟩
theorem aa8 {A B:Prop}(h:A)(k:zHd A→B:=by intro zz;refine YG ?_;refine aa0 ?_;exact zz.o):B:=k ⟨h⟩
theorem aa9 {A B:Prop}(h:A)(k:zHd A→B:=by intro zz;refine RL.A1 aa rfl ?_;refine RL.N1 (YJ ?_);exact zz.o):B:=k ⟨h⟩
theorem ab0 {A B:Prop}(h:A)(k:zHd A→B:=by intro zz;refine RL.indexAddr (k:=i) aa rfl rfl rfl rfl rfl rfl rfl hc rfl ?_;exact zz.o):B:=k ⟨h⟩
theorem ab1 {A B:Prop}(h:A)(k:zHd A→B:=by intro zz;refine RL.pure aa 2 rfl ?_;refine RL.eqv (v':=.bool true) (xZ _ (zW J9)) ?_;refine RL.pure aa 3 rfl ?_;refine RL.eqv (v':=.bool false) (xZ _ (zV J9)) ?_;refine aa9 ?_;refine WP.bg rfl ?_;refine YG ?_;exact zz.o):B:=k ⟨h⟩
theorem ab2 {A B:Prop}(h:A)(k:zHd A→B:=by intro zz;refine RH.one rfl J7 rfl ?_;exact zz.o):B:=k ⟨h⟩
theorem ab3 {A B:Prop}(h:A)(k:zHd A→B:=by intro zz;refine RL.A1 aa rfl ?_;exact zz.o):B:=k ⟨h⟩
theorem ab4 {A B:Prop}(h:A)(k:zHd A→B:=by intro zz;refine aa1 ?_;refine go ?_;exact zz.o):B:=k ⟨h⟩
theorem ab5 {A B:Prop}(h:A)(k:zHd A→B:=by intro zz;refine aa8 ?_;refine WP.ret (YI ?_);exact zz.o):B:=k ⟨h⟩
theorem ab6 {A:Prop}(h:A:=by exact QN.aj rfl rfl ⟨_,rfl,[],⟨rfl,rfl⟩,hS.tail⟩):A:=h
theorem ab7 {A B:Prop}(h:A)(k:zHd A→B:=by intro zz;refine WP.skip (YE ?_);exact zz.o):B:=k ⟨h⟩
theorem ab8 {A B:Prop}(h:A)(k:zHd A→B:=by intro zz;refine RL.pure aa 2 rfl ?_;exact zz.o):B:=k ⟨h⟩
theorem ab9 {A B:Prop}(h:A)(k:zHd A→B:=by intro zz;refine RL.N1 (RF.last J7 (QN.calm ?_));exact zz.o):B:=k ⟨h⟩
theorem ac0 {A B:Prop}(h:A)(k:zHd A→B:=by intro zz;refine aa0 ?_;refine WP.ret (YI ?_);exact zz.o):B:=k ⟨h⟩
theorem ac1 {A B:Prop}(h:A)(k:zHd A→B:=by intro zz;refine RL.eqv (v':=.bool true) (xZ _ (zW J9)) ?_;exact zz.o):B:=k ⟨h⟩
theorem ac2 {A B:Prop}(h:A)(k:zHd A→B:=by intro zz;refine WP.exit (YD ?_);refine YG ?_;exact zz.o):B:=k ⟨h⟩
theorem ac3 {A B:Prop}(h:A)(k:zHd A→B:=by intro zz;refine RL.aU aa rfl hS rfl rfl ?_;exact zz.o):B:=k ⟨h⟩
theorem ac4 {A:Prop}(h:A:=by refine go ?_;exact QN.aj rfl rfl ⟨_,rfl,[],⟨rfl,rfl⟩,hS⟩):A:=h
theorem ac5 {A B:Prop}(h:A)(k:zHd A→B:=by intro zz;refine RL.eqv (v':=.bool false) (xZ _ (zV J9)) ?_;exact zz.o):B:=k ⟨h⟩
theorem ac6 {A B:Prop}(h:A)(k:zHd A→B:=by intro zz;refine RL.pure aa 1 rfl ?_;exact zz.o):B:=k ⟨h⟩
theorem ac7 {A B:Prop}(h:A)(k:zHd A→B:=by intro zz;refine RL.N1 (RH.aD hS (an.ay fun _ h=>zO _ h) ?_);refine aZ ?_;exact zz.o):B:=k ⟨h⟩
theorem ac8 {A B:Prop}(h:A)(k:zHd A→B:=by intro zz;refine RL.bn hS rfl rfl rfl ?_;exact zz.o):B:=k ⟨h⟩
theorem ac9 {A B:Prop}(h:A)(k:zHd A→B:=by intro zz;refine aa1 ?_;refine aR ?_;exact zz.o):B:=k ⟨h⟩
theorem ad0 {A B:Prop}(h:A)(k:zHd A→B:=by intro zz;refine RL.pure aa 3 rfl ?_;exact zz.o):B:=k ⟨h⟩
theorem ad1 {A B:Prop}(h:A)(k:zHd A→B:=by intro zz;refine go ?_;refine ab2 ?_;refine aa2 ?_;intro m hS;refine RL.N1 (RH.aD hS JD ?_);refine go ?_;revert m hS;exact zz.o):B:=k ⟨h⟩
theorem ad4 {A B:Prop}(h:A)(k:zHd A→B:=by intro zz;refine RH.lookup aa ai.calm ko rfl J7 rfl rfl rfl rfl rfl rfl rfl JQ hg rfl ?_;refine go ?_;exact zz.o):B:=k ⟨h⟩
theorem ad7 {A:Prop}(h:A:=by refine go ?_;exact QN.aj rfl rfl ⟨_,rfl,[],⟨⟨_,rfl⟩,rfl⟩,fin hS⟩):A:=h
theorem ad8 {A B:Prop}(h:A)(k:zHd A→B:=by intro zz;refine WP.dQ hS rfl J7 ?_;refine aZ ?_;exact zz.o):B:=k ⟨h⟩
theorem ad9 {A B:Prop}(h:A)(k:zHd A→B:=by intro zz;refine RL.ext (v:=.int .u64 f) (ex:=Extern.MathFloatBits.float64bits) Tryz.func96 rfl rfl rfl rfl rfl rfl rfl (fun w=>rfl) rfl ?_;exact zz.o):B:=k ⟨h⟩
theorem ae0 {A B:Prop}(h:A)(k:zHd A→B:=by intro zz;refine aZ ?_;refine RH.kh aa ai.calm Fh qe (JS.aW (show mq [gd] (.slice (some ⟨gd,0,none⟩) (wr+1) cd) D (wr+1)∈_ from JQ)) hw 0 rfl rfl J7 rfl rfl rfl YB rfl rfl rfl ?_;refine aZ ?_;exact zz.o):B:=k ⟨h⟩
theorem ae1 {A:Prop}(h:A:=by refine go ?_;exact QN.aj rfl rfl ⟨_,rfl,[],⟨rfl,rfl⟩,fin hS⟩):A:=h
theorem ae2 {A B:Prop}(h:A)(k:zHd A→B:=by intro zz;refine WP.fk hS rfl J7 ?_;refine aZ ?_;exact zz.o):B:=k ⟨h⟩
theorem ae3 {A B:Prop}(h:A)(k:zHd A→B:=by intro zz;refine aa0 ?_;refine WP.bg rfl ?_;refine ab7 ?_;refine ac6 ?_;refine aa6 ?_;refine RL.N1 (QN.round (i+1) YC ⟨J9,?_⟩ J9);exact zz.o):B:=k ⟨h⟩
theorem ae4 {A:Prop}(h:A:=by refine ah ?_;exact QN.aj rfl rfl ⟨_,rfl,_,⟨⟨_,rfl⟩,rfl⟩,hS.tail⟩):A:=h
theorem ae5 {A B:Prop}(h:A)(k:zHd A→B:=by intro zz;refine RH.pure aa hQ [0,1] J7 rfl ?_;refine RH.indexAddr aa hQ 2 (k:=i) rfl J7 rfl rfl rfl rfl rfl rfl rfl hc rfl ?_;exact zz.o):B:=k ⟨h⟩
theorem ae6 {A:Prop}(h:A:=by exact QN.bH (bY.cg aa hS rfl rfl rfl rfl JQ) ⟨_,rfl,[],⟨rfl,rfl⟩,hS.tail.tail.tail.tail⟩):A:=h
theorem ae7 {A:Prop}(h:A:=by refine go ?_;exact QN.aj rfl rfl ⟨_,rfl,[],⟨rfl,rfl⟩,hS.tail.tail⟩):A:=h
theorem ae8 {A B:Prop}(h:A)(k:zHd A→B:=by intro zz;refine RL.N1 (RH.aD hS JD ?_);exact zz.o):B:=k ⟨h⟩
theorem ae9 {A B:Prop}(h:A)(k:zHd A→B:=by intro zz;refine WP.bg rfl ?_;refine WP.skip ?_;exact zz.o):B:=k ⟨h⟩
theorem af0 {A B:Prop}(h:A)(k:zHd A→B:=by intro zz;refine RH.lookup (k:=o2.p) (es:=mP (I1++i::I2)) (v:=.map (some i.r)) aa ai.calm ko rfl J7 rfl rfl rfl rfl rfl rfl rfl JQ (by rw [h];rfl) rfl ?_;refine ah ?_;exact zz.o):B:=k ⟨h⟩
theorem af1 {A B:Prop}(h:A)(k:zHd A→B:=by intro zz;refine RH.pure aa hQ [0,1,2] J7 rfl ?_;refine RH.indexAddr aa hQ 3 (k:=i) rfl J7 rfl rfl rfl rfl rfl rfl rfl hc rfl ?_;refine RH.pure aa hQ [4] J7 rfl ?_;exact zz.o):B:=k ⟨h⟩
theorem af2 {A B:Prop}(h:A)(k:zHd A→B:=by intro zz;refine ⟨by simp only [zC,zN];exact JD,_,rfl,?_⟩;exact zz.o):B:=k ⟨h⟩
theorem af3 {A B:Prop}(h:A)(k:zHd A→B:=by intro zz;refine WP.exit (YD ?_);refine ab5 ?_;exact zz.o):B:=k ⟨h⟩
theorem af4 {A:Prop}(h:A:=by refine ah ?_;exact QN.aj rfl rfl ⟨_,rfl,_,⟨_,ML,rfl,.inl rfl,rfl⟩,no hS⟩):A:=h
theorem af5 {A B:Prop}(h:A)(k:zHd A→B:=by intro zz;refine aa8 ?_;refine aa0 ?_;exact zz.o):B:=k ⟨h⟩
theorem af6 {A:Prop}(h:A:=by refine ah ?_;exact QN.aj rfl rfl ⟨_,rfl,_,⟨by rw [hf],rfl⟩,no hf hS⟩):A:=h
theorem af7 {A B:Prop}(h:A)(k:zHd A→B:=by intro zz;refine ad0 ?_;refine ac1 ?_;refine aa9 ?_;refine WP.da rfl ?_;exact zz.o):B:=k ⟨h⟩
theorem af8 {A B:Prop}(h:A)(k:zHd A→B:=by intro zz;refine RL.load aa rfl rfl rfl (g2.cell 0 rfl) rfl ?_;refine RL.indexAddr (k:=0) aa rfl rfl rfl rfl rfl rfl rfl fh rfl ?_;refine ac6 ?_;exact zz.o):B:=k ⟨h⟩
theorem af9 {A B:Prop}(h:A)(k:zHd A→B:=by intro zz;refine RL.eqv (v':=.int .i64 ((j+1:Nat):Int)) (xZ _ Jb) ?_;refine ab3 ?_;exact zz.o):B:=k ⟨h⟩
theorem ag0 {A:Prop}(h:A:=by exact QN.round (i+1) YC ⟨aM,hS⟩ J9):A:=h
theorem ag1 {A B:Prop}(h:A)(k:zHd A→B:=by intro zz;refine ac8 ?_;intro b2 m hS;refine ab4 ?_;revert b2 m hS;exact zz.o):B:=k ⟨h⟩
theorem ag2 {A B:Prop}(h:A)(k:zHd A→B:=by intro zz;refine RL.N1 (RH.aD hS (an.ay fun _ h=>zO _ (zO _ h)) ?_);exact zz.o):B:=k ⟨h⟩
theorem ag3 {A:Prop}(h:A:=by refine ah ?_;rw [bZ];refine ah ?_;exact ab6):A:=h
theorem ag4 {A:Prop}(h:A:=by refine ah ?_;exact QN.ar () YC hS):A:=h
theorem ag5 {A B:Prop}(h:A)(k:zHd A→B:=by intro zz;refine go ?_;refine aa2 ?_;intro m hS;refine go ?_;revert m hS;exact zz.o):B:=k ⟨h⟩
theorem ag6 {A:Prop}(h:A:=by exact QN.ar (⟨1,a0,n0,s1,v5,s2⟩,.slice none 0 0,[]) JT (sm (rM J8 J8 J9 J9 H8 GF I4) hS)):A:=h
theorem ag7 {A B:Prop}(h:A)(k:zHd A→B:=by intro zz;refine go ?_;refine RL.aA aa hS [.tmp 73] (us:=[oV o']) (oC o') rfl rfl rfl rfl rfl rfl JO rfl rfl rfl ?_;intro b'' m hS;refine ab4 ?_;revert b'' m hS;exact zz.o):B:=k ⟨h⟩
theorem ag8 {A B:Prop}(h:A)(k:zHd A→B:=by intro zz;refine ab8 ?_;refine aa6 ?_;exact zz.o):B:=k ⟨h⟩
theorem ag9 {A B:Prop}(h:A)(k:zHd A→B:=by intro zz;rw [show((e.k:Int)==1)=false by rw [hk];rfl];refine ah ?_;rw [show((e.k:Int)==2)=false by rw [hk];rfl];refine ah ?_;exact zz.o):B:=k ⟨h⟩
theorem ah0 {A B:Prop}(h:A)(k:zHd A→B:=by intro zz;refine RL.eqv (v':=.bool false) (xZ _ (vR _▸h1)) ?_;exact zz.o):B:=k ⟨h⟩
theorem ah1 {A B:Prop}(h:A)(k:zHd A→B:=by intro zz;refine RH.indexAddr aa hQ 8 (k:=i) rfl J7 rfl rfl rfl rfl rfl rfl rfl hc rfl ?_;refine RH.pure aa hQ [9] J7 rfl ?_;exact zz.o):B:=k ⟨h⟩
theorem ah2 {A:Prop}(h:A:=by exact QN.aj rfl rfl ⟨_,rfl,_,⟨b1,rfl,rfl⟩,hS⟩):A:=h
theorem ah3 {A:Prop}(h:A:=by refine ah ?_;exact QN.aj rfl rfl ⟨_,rfl,_,⟨⟨_,rfl⟩,rfl⟩,fin hS⟩):A:=h
theorem ah4 {A:Prop}(h:A:=by exact (hS.aH (Pre:=ab b3 55 (oC o)::cQ s x2.q::rZ d s mm x2 v2 []) JC).drop):A:=h
theorem ah5 {A B:Prop}(h:A)(k:zHd A→B:=by intro zz;refine go ?_;refine RL.sliceFrom aa (l:=i) rfl rfl rfl rfl rfl J9 rfl ?_;exact zz.o):B:=k ⟨h⟩
theorem ah6 {A:Prop}(h:A:=by rw [vH,List.drop_succ_cons,←ih l,xQ,wQ,←xL];rfl):A:=h
theorem ah7 {A B:Prop}(h:A)(k:zHd A→B:=by intro zz;refine ac5 ?_;refine aa9 ?_;refine WP.bg rfl ?_;exact zz.o):B:=k ⟨h⟩
theorem ah8 {A:Prop}(h:A:=by refine ah ?_;exact QN.aj rfl rfl ⟨_,rfl,no hS⟩):A:=h
theorem ah9 {A B:Prop}(h:A)(k:zHd A→B:=by intro zz;refine RL.N1 (RH.aD hS (an.ay fun _ h=>Jd) ?_);exact zz.o):B:=k ⟨h⟩
theorem ai0 {A B:Prop}(h:A)(k:zHd A→B:=by intro zz;refine ah ?_;rw [show((str k).size:Int)=(k.length:Int) by simp [bV]];exact zz.o):B:=k ⟨h⟩
theorem ai1 {A B:Prop}(h:A)(k:zHd A→B:=by intro zz;refine YG ?_;refine ab3 ?_;exact zz.o):B:=k ⟨h⟩
theorem ai2 {A B:Prop}(h:A)(k:zHd A→B:=by intro zz;refine aa1 ?_;refine aa0 ?_;exact zz.o):B:=k ⟨h⟩
theorem ai3 {A:Prop}(h:A:=by exact QN.aj rfl rfl ⟨_,rfl,_,⟨rfl,rfl⟩,Tr.drop (H:=[]) hS⟩):A:=h
theorem ai4 {A:Prop}(h:A:=by rw [hw];exact QN.round (i+1) YC ⟨J9,hS⟩ J9):A:=h
theorem ai5 {A B:Prop}(h:A)(k:zHd A→B:=by intro zz;refine aR ?_;refine ac3 ?_;intro b m hS;refine ac9 ?_;refine aa2 ?_;revert b m hS;exact zz.o):B:=k ⟨h⟩
theorem ai6 {A B:Prop}(h:A)(k:zHd A→B:=by intro zz;refine ab7 ?_;refine RL.pure aa 5 rfl ?_;refine RL.eqv (v':=.int .i64 (q:Int)) (xZ _ JY) ?_;exact zz.o):B:=k ⟨h⟩
theorem ai7 {A B:Prop}(h:A)(k:zHd A→B:=by intro zz;refine ah ?_;rw [show IntKind.i64.wrap ((i:Int)+1)=((i+1:Nat):Int) by rw [ag _ J9 J9];simp];exact zz.o):B:=k ⟨h⟩
theorem ai8 {A:Prop}(h:A:=by exact QN.aj rfl rfl ⟨_,rfl,_,⟨S9,rfl⟩,hS.drop (H:=[_])⟩):A:=h
theorem ai9 {A B:Prop}(h:A)(k:zHd A→B:=by intro zz;refine RL.eqv (v':=.bool true) (xZ _ h1) ?_;exact zz.o):B:=k ⟨h⟩
theorem aj0 {A B:Prop}(h:A)(k:zHd A→B:=by intro zz;refine go ?_;refine aa4 ?_;exact zz.o):B:=k ⟨h⟩
theorem aj1 {A B:Prop}(h:A)(k:zHd A→B:=by intro zz;refine RL.N1 (YE ?_);refine WP.ret (YI ?_);exact zz.o):B:=k ⟨h⟩
theorem aj2 {A B:Prop}(h:A)(k:zHd A→B:=by intro zz;refine ab7 ?_;refine ab3 ?_;exact zz.o):B:=k ⟨h⟩
structure MF(p:Prop):Prop where o:p
theorem zD{Y:Prop}(x:Y){A B:Prop}(h:A)(k:Y→MF A→B:=by intro zx zz;refine RL.dr (fi:=[]) (ca:=[]) hS zx rfl rfl rfl rfl JB ?_;exact zz.o):B:=k x ⟨h⟩
theorem zF{Y:Prop}(x:Y){A B:Prop}(h:A)(k:Y→MF A→B:=by intro zx zz;refine RL.dr (fi:=[]) (ca:=[]) hS zx rfl rfl rfl rfl bk.nil ?_;exact zz.o):B:=k x ⟨h⟩
theorem zG{Y:Prop}(x:Y){A B:Prop}(h:A)(k:Y→MF A→B:=by intro zx zz;refine RL.dr (fi:=[]) (ca:=[]) hS zx rfl rfl rfl rfl .nil ?_;exact zz.o):B:=k x ⟨h⟩
theorem zH{Y:Prop}(x:Y){A B:Prop}(h:A)(k:Y→MF A→B:=by intro zx zz;refine RL.dr (fi:=[]) (ca:=[]) hS zx rfl rfl rfl rfl JC ?_;exact zz.o):B:=k x ⟨h⟩
theorem zJ{Y:Prop}(x:Y){A B:Prop}(h:A)(k:Y→MF A→B:=by intro zx zz;refine RL.bU (fi:=[]) (ca:=[]) hS zx rfl rfl rfl rfl JB rfl ?_;exact zz.o):B:=k x ⟨h⟩
theorem zK{Y:Prop}(x:Y){A B:Prop}(h:A)(k:Y→MF A→B:=by intro zx zz;refine RH.bU (fi:=[]) (ca:=[]) hS zx rfl J7 rfl rfl rfl rfl rfl JB JD rfl ?_;exact zz.o):B:=k x ⟨h⟩
theorem zL{Y:Prop}(x:Y){A B:Prop}(h:A)(k:Y→MF A→B:=by intro zx zz;refine RH.iN (fi:=[]) (ca:=[]) hS zx rfl J7 rfl rfl rfl rfl rfl JB ?_;exact zz.o):B:=k x ⟨h⟩
theorem zM{Y:Prop}(x:Y){A B:Prop}(h:A)(k:Y→MF A→B:=by intro zx zz;refine RL.call (fi:=[]) (ca:=[]) rfl rfl rfl rfl zx ?_;exact zz.o):B:=k x ⟨h⟩
theorem zP{α:Sort _}(a:α):∃b,b=a:=⟨_,rfl⟩
theorem zQ{α:Type _}{l:List α}{i:Nat}(h:i<l.length):∃z,l[i]?=some z:=⟨_,List.getElem?_eq_getElem h⟩
theorem zR:type_of%@Nat.min_eq_left:=@Nat.min_eq_left
theorem zT:type_of%@List.mem_singleton:=@List.mem_singleton
theorem zU:type_of%@Nat.zero_add:=@Nat.zero_add
theorem zV:type_of%@decide_eq_false:=@decide_eq_false
theorem zW:type_of%@decide_eq_true:=@decide_eq_true
theorem zX:type_of%@if_neg:=@if_neg
theorem zY:type_of%@List.length_append:=@List.length_append
theorem zZ:type_of%@List.length_drop:=@List.length_drop
theorem yA:type_of%@List.length_take:=@List.length_take
theorem yB:type_of%@List.cons_append:=@List.cons_append
theorem yC:type_of%@List.nil_append:=@List.nil_append
theorem yD:type_of%@List.take_of_length_le:=@List.take_of_length_le
theorem yE:type_of%@List.take_append_of_le_length:=@List.take_append_of_le_length
theorem yF:type_of%@List.length_cons:=@List.length_cons
theorem yG:type_of%@List.take_append_drop:=@List.take_append_drop
theorem yH:type_of%@List.mem_cons:=@List.mem_cons
theorem yI:type_of%@Nat.zero_le:=@Nat.zero_le
theorem yJ:type_of%@Option.some.injEq:=@Option.some.injEq
theorem yK:type_of%@Prod.mk.injEq:=@Prod.mk.injEq
theorem yL:type_of%@List.mem_append:=@List.mem_append
theorem yM:type_of%@Ne.symm:=@Ne.symm
theorem yN:type_of%@List.nodup_append:=@List.nodup_append
theorem yO:type_of%@List.nodup_cons:=@List.nodup_cons
theorem yP:type_of%@Nat.le_refl:=@Nat.le_refl
theorem yQ:type_of%@Nat.le_succ_of_le:=@Nat.le_succ_of_le
theorem yR:type_of%@Option.some.inj:=@Option.some.inj
theorem yS:type_of%@if_pos:=@if_pos
theorem yT:type_of%@if_true:=@if_true
theorem yU:type_of%@Nat.le_of_ble_eq_true:=@Nat.le_of_ble_eq_true
theorem yV:type_of%@List.getElem?_eq_some_iff:=@List.getElem?_eq_some_iff
theorem yW:type_of%@List.mem_append_left:=@List.mem_append_left
theorem yX:type_of%@List.mem_append_right:=@List.mem_append_right
theorem yY:type_of%@List.mem_filter:=@List.mem_filter
theorem yZ:type_of%@List.pairwise_cons:=@List.pairwise_cons
theorem xA:type_of%@Nat.lt_or_ge:=@Nat.lt_or_ge
theorem xB:type_of%@List.foldl_cons:=@List.foldl_cons
theorem xC:type_of%@List.length_reverse:=@List.length_reverse
theorem xD:type_of%@List.length_filter_le:=@List.length_filter_le
theorem xE:type_of%@List.length_nil:=@List.length_nil
theorem xF:type_of%@List.pairwise_append:=@List.pairwise_append
theorem xG:type_of%@List.mem_iff_getElem:=@List.mem_iff_getElem
theorem xH:type_of%@List.getElem_take:=@List.getElem_take
theorem xI:type_of%@List.perm_append_comm:=@List.perm_append_comm
theorem xJ:type_of%@List.pairwise_iff_getElem:=@List.pairwise_iff_getElem
theorem xK:type_of%@List.map_cons:=@List.map_cons
theorem xL:type_of%@List.drop_drop:=@List.drop_drop
theorem xM:type_of%@List.getElem?_map:=@List.getElem?_map
theorem xN:type_of%@Option.map_eq_some_iff:=@Option.map_eq_some_iff
theorem xO:type_of%@Array.ext':=@Array.ext'
theorem xP:type_of%@Array.toList_map:=@Array.toList_map
theorem xQ:type_of%@Nat.succ_mul:=@Nat.succ_mul
theorem xR:type_of%@Nat.eq_zero_or_pos:=@Nat.eq_zero_or_pos
theorem xS:type_of%@of_decide_eq_true:=@of_decide_eq_true
theorem xT:type_of%@List.getElem_of_mem:=@List.getElem_of_mem
theorem xU:type_of%@List.mem_of_getElem?:=@List.mem_of_getElem?
theorem xV:type_of%@List.getElem?_take:=@List.getElem?_take
theorem xW:type_of%@List.getElem?_eq_getElem:=@List.getElem?_eq_getElem
theorem xX:type_of%@List.filter_append:=@List.filter_append
theorem xY:type_of%@List.take_left:=@List.take_left
theorem xZ:type_of%@congrArg:=@congrArg
theorem wA:type_of%@Nat.le_succ:=@Nat.le_succ
theorem wB:type_of%@List.take_add_one:=@List.take_add_one
theorem wC:type_of%@Bool.false_eq_true:=@Bool.false_eq_true
theorem wE:type_of%@if_false:=@if_false
theorem wF:type_of%@List.take_length:=@List.take_length
theorem wG:type_of%@Nat.le_trans:=@Nat.le_trans
theorem wH:type_of%@Nat.lt_of_lt_of_le:=@Nat.lt_of_lt_of_le
theorem wI:type_of%@Array.getElem?_eq_some_iff:=@Array.getElem?_eq_some_iff
theorem wJ:type_of%@Nat.add_zero:=@Nat.add_zero
theorem wM:type_of%@List.append_assoc:=@List.append_assoc
theorem wN:type_of%@Nat.max_zero:=@Nat.max_zero
theorem wO:type_of%@List.eq_nil_of_length_eq_zero:=@List.eq_nil_of_length_eq_zero
theorem wP:type_of%@Nat.mul_le_mul_right:=@Nat.mul_le_mul_right
theorem wQ:type_of%@Nat.add_comm:=@Nat.add_comm
theorem wR:type_of%@Bool.and_eq_true:=@Bool.and_eq_true
theorem wS:type_of%@Bool.or_eq_true:=@Bool.or_eq_true
theorem wU:type_of%@List.any_eq_true:=@List.any_eq_true
theorem wX:type_of%@List.all_eq_true:=@List.all_eq_true
theorem wY:type_of%@Bool.and_true:=@Bool.and_true
theorem wZ:type_of%@List.getElem?_cons_zero:=@List.getElem?_cons_zero
theorem vA:type_of%@List.getElem?_drop:=@List.getElem?_drop
theorem vB:type_of%@List.length_set:=@List.length_set
theorem vE:type_of%@List.mem_map:=@List.mem_map
theorem vF:type_of%@List.getElem_mem:=@List.getElem_mem
theorem vG:type_of%@List.flatMap_append:=@List.flatMap_append
theorem vH:type_of%@List.flatMap_cons:=@List.flatMap_cons
theorem vI:type_of%@List.append_nil:=@List.append_nil
theorem vJ:type_of%@List.getElem?_append_left:=@List.getElem?_append_left
theorem vM:type_of%@List.getElem?_append_right:=@List.getElem?_append_right
theorem vN:type_of%@List.take_succ_eq_append_getElem:=@List.take_succ_eq_append_getElem
theorem vO:type_of%@List.foldl_append:=@List.foldl_append
theorem vP:type_of%@Nat.mod_lt:=@Nat.mod_lt
theorem vQ:type_of%@decide_eq_decide:=@decide_eq_decide
theorem vR:type_of%@Bool.not_eq_true:=@Bool.not_eq_true
theorem vS:type_of%@List.mem_flatMap:=@List.mem_flatMap
theorem vU:type_of%@List.perm_middle:=@List.perm_middle
theorem vX:type_of%@of_decide_eq_false:=@of_decide_eq_false
theorem vY:type_of%@decide_eq_true_eq:=@decide_eq_true_eq
theorem vZ:type_of%@List.getElem?_inj:=@List.getElem?_inj
theorem uA:type_of%@List.findIdx?_eq_some_iff_getElem:=@List.findIdx?_eq_some_iff_getElem
theorem uB:type_of%@List.getD_eq_getElem?_getD:=@List.getD_eq_getElem?_getD
theorem uD:type_of%@Option.getD_some:=@Option.getD_some
theorem uE:type_of%@List.findIdx?_eq_none_iff:=@List.findIdx?_eq_none_iff
theorem uF:type_of%@List.length_map:=@List.length_map
theorem uG:type_of%@List.takeWhile_cons:=@List.takeWhile_cons
theorem uH:type_of%@List.getElem?_cons_succ:=@List.getElem?_cons_succ
theorem uJ:type_of%@List.map_append:=@List.map_append
theorem uK:type_of%@Option.isNone_iff_eq_none:=@Option.isNone_iff_eq_none
theorem uL:type_of%@Option.isSome_iff_exists:=@Option.isSome_iff_exists
theorem uM:type_of%@List.map_map:=@List.map_map
theorem uN:type_of%@beq_eq_false_iff_ne:=@beq_eq_false_iff_ne
theorem uO:type_of%@Nat.mul_one:=@Nat.mul_one
theorem uP:type_of%@List.nodup_nil:=@List.nodup_nil
theorem uQ:type_of%@List.ext_getElem?:=@List.ext_getElem?
theorem uR:type_of%@List.getElem?_set:=@List.getElem?_set
theorem uS:type_of%@Option.map_some:=@Option.map_some
theorem uT:type_of%@List.not_mem_nil:=@List.not_mem_nil
theorem uU:type_of%@or_false:=@or_false
theorem uW:type_of%@List.length_singleton:=@List.length_singleton
theorem uX:type_of%@Array.length_toList:=@Array.length_toList
theorem uY:type_of%@List.getElem_append_left:=@List.getElem_append_left
theorem uZ:type_of%@Bool.eq_iff_iff:=@Bool.eq_iff_iff
theorem tA:type_of%@List.set_append_right:=@List.set_append_right
theorem tB:type_of%@List.reverse_cons:=@List.reverse_cons
theorem tD:type_of%@List.mem_of_mem_drop:=@List.mem_of_mem_drop
theorem tE:type_of%@List.take_left':=@List.take_left'
theorem tF:type_of%@List.take_take:=@List.take_take
theorem tG:type_of%@Nat.sub_self:=@Nat.sub_self
theorem tH:type_of%@beq_self_eq_true:=@beq_self_eq_true
theorem tI:type_of%@List.drop_eq_getElem_cons:=@List.drop_eq_getElem_cons
theorem tJ:type_of%@Nat.succ_le_succ:=@Nat.succ_le_succ
theorem tK:type_of%@List.getElem?_eq_none:=@List.getElem?_eq_none
theorem tL:type_of%@Nat.eq_or_lt_of_le:=@Nat.eq_or_lt_of_le
theorem tM:type_of%@List.perm_append_comm_assoc:=@List.perm_append_comm_assoc
theorem JA{A:Prop}(h:A:=by rw [h2];exact (by repeat(first|with_reducible exact bk.nil|apply bk.ro (by repeat(first|exact zS ..|with_reducible apply zO)) (by rfl)|apply bk.own (by repeat(first|exact sY.head|with_reducible apply sY.tail))))):A:=h
theorem JB{A:Prop}(h:A:=by repeat(first|with_reducible exact bk.nil|apply bk.ro (by with_reducible repeat(first|exact zS ..|apply zO)) (by rfl)|apply bk.own (by with_reducible repeat(first|exact sY.head|apply sY.tail)))):A:=h
theorem JC{A:Prop}(h:A:=by repeat(first|with_reducible exact bk.nil|apply bk.ro (by repeat(first|exact zS ..|with_reducible apply zO)) (by rfl)|apply bk.own (by repeat(first|exact sY.head|with_reducible apply sY.tail)))):A:=h
theorem JD{A:Prop}(h:A:=by repeat(first|exact an.nil|refine an.cons (by repeat(first|with_reducible exact zS ..|exact zS ..|with_reducible apply zO)) ?_)):A:=h
theorem JE{A:Prop}(h:A:=by show IntKind.i64.wrap ((k:Int)-IntKind.i64.wrap 0)=k;rw [ag 0 (by omega) (by omega),ag _ (by omega) (by omega)];omega):A:=h
theorem JF{A:Prop}(h:A:=by show IntKind.i64.wrap (((ns.take i).sum:Int)+(ns[i]:Int))=_;rw [ag _ (by omega) (by omega),bo i (by omega)];omega):A:=h
theorem JG{A:Prop}(h:A:=by show IntKind.i64.wrap (((r'.length+1:Nat):Int)-1)=r'.length;rw [ag _ (by omega) (by omega)];omega):A:=h
theorem JH{A:Prop}(h:A:=by repeat(first|exact an.nil|refine an.cons (by with_reducible repeat(first|exact zS ..|apply zO)) ?_)):A:=h
theorem JI{A:Prop}(h:A:=by repeat(first|with_reducible exact zS ..|with_reducible apply zO|exact hN|exact s3|exact jr)):A:=h
theorem JJ{A:Prop}(h:A:=by with_reducible repeat(first|exact ai.body|refine ai.Qq ?_|refine ai.PH ?_)):A:=h
theorem JK{A:Prop}(h:A:=by repeat(first|with_reducible exact zS ..|exact zS ..|with_reducible apply zO)):A:=h
theorem JL{A:Prop}(h:A:=by rw [hy,show Nat.min m (n+m-i)=m from zR (by omega)]):A:=h
theorem JM{A:Prop}(h:A:=by with_reducible repeat(first|exact sY.head|apply sY.tail)):A:=h
theorem JN{A:Prop}(h:A:=by with_reducible repeat(first|exact kq.head|apply kq.tail)):A:=h
theorem JO{A:Prop}(h:A:=by intro u hu;simp only [zT]at hu;subst hu;rfl):A:=h
theorem JP{A:Prop}(h:A:=by rw [av,zU];exact bw.cell (hS.mem hB) j hx):A:=h
theorem JQ{A:Prop}(h:A:=by with_reducible repeat(first|exact zS ..|apply zO)):A:=h
theorem JR{A:Prop}(h:A:=by repeat(first|exact zS ..|with_reducible apply zO)):A:=h
theorem JT{A:Prop}(h:A:=by repeat(first|exact Sub.nil|refine Sub.C1 rfl ?_)):A:=h
theorem JU{A:Prop}(h:A:=by rw [iF x.f id.k id.k rfl];exact zV h3):A:=h
theorem JV{A:Prop}(h:A:=by rw [iF x.f id.k id.k rfl];exact zW h3):A:=h
theorem JW{A:Prop}(h:A:=by rw [zX (by omega)];simp [av]<;>rfl):A:=h
theorem JX{A:Prop}(h:A:=by repeat(first|exact sY.head|apply sY.tail)):A:=h
theorem JY{A:Prop}(h:A:=by rw [ag _ (by omega) (by omega)];omega):A:=h
theorem JZ{A:Prop}(h:A:=by have h9:q=b7:=(by simpa using hq);omega):A:=h
theorem Ja{A:Prop}(h:A:=by have h9:k=b7:=(by simpa using hk);omega):A:=h
theorem Jb{A:Prop}(h:A:=by rw [ag _ (by omega) (by omega)];rfl):A:=h
theorem Jc{A:Prop}(h:A:=by show q<w.heap.size;rw [hs.size];exact hq):A:=h
theorem Jd{A:Prop}(h:A:=by(repeat(first|exact h|apply zO));done):A:=h
theorem Je{A:Prop}(h:A:=by rw [zX Xc];simp [av]<;>rfl):A:=h
theorem Jf{A:Prop}(h:A:=by rw [AY];exact zV h2):A:=h
theorem Jg{A:Prop}(h:A:=by rw [AY];exact zV h1):A:=h
theorem Jh{A:Prop}(h:A:=by rw [AY];exact zW h2):A:=h
theorem Ji{A:Prop}(h:A:=by rw [AY];exact zW h1):A:=h
theorem Jj{A:Prop}(h:A:=by show _-(i+1)<_-i;omega):A:=h
theorem Jk{A:Prop}(h:A:=by show _-(j+1)<_-j;omega):A:=h
theorem Jl{A:Prop}(h:A:=by rw [zY];omega):A:=h
theorem Jm{A:Prop}(h:A:=by simp only [ur,add_add]):A:=h
theorem Jn{A:Prop}(h:A:=by show(_+1)*24≤_;omega):A:=h
theorem Jo{A:Prop}(h:A:=by rw [add_add]at hx;exact hx):A:=h
theorem Jp{A:Prop}(h:A:=by rw [zZ];omega):A:=h
theorem Jq{A:Prop}(h:A:=by rw [yA];omega):A:=h
theorem Jr{A:Prop}(h:A:=by show(_+1)*32≤_;omega):A:=h
theorem Jt{A:Prop}(h:A:=by simp [rV,rC,Value.cells]):A:=h
theorem Ju{A:Prop}(h:A:=by simp [tC,Value.oneCell']):A:=h
theorem Jv{A:Prop}(h:A:=by simp [rC,Value.oneCell']):A:=h
theorem Jw{A:Prop}(h:A:=by simp [rV,Value.cells]):A:=h
theorem Jy{A:Prop}(h:A:=by unfold maxLen;omega):A:=h
theorem Jz{A:Prop}(h:A:=by simp [Value.cells]):A:=h
theorem J0{A:Prop}(h:A:=by dsimp only;omega):A:=h
theorem J1{A:Prop}(h:A:=by simp [a6.names]):A:=h
theorem J2{A:Prop}(h:A:=by simpa using hu):A:=h
theorem J3{A:Prop}(h:A:=by simpa using hq):A:=h
theorem J4{A:Prop}(h:A:=by simpa using hh):A:=h
theorem J5{A:Prop}(h:A:=by simpa using h):A:=h
theorem J6{A:Prop}(h:A:=by simp;omega):A:=h
theorem J7{A:Prop}(h:A:=by kernel_rfl):A:=h
theorem J8{A:Prop}(h:A:=by decide):A:=h
theorem J9{A:Prop}(h:A:=by omega):A:=h
theorem YA{A:Prop}(h:A:=by simp):A:=h
theorem YB{A:Prop}(h:A:=by rfl):A:=h
theorem YC{A:Prop}(h:A:=by repeat(first|exact Sub.nil|refine Sub.C1 rfl ?_)):A:=h
theorem YD{A B:Prop}(h:A)(k:A→B:=by intro h;(with_reducible repeat(first|refine QN.tx ?_|refine QN.bx ?_|refine QN.tW rfl ?_|refine QN.B1 ?_|refine QN.N1 ?_));exact h):B:=k h
theorem YE{A B:Prop}(h:A)(k:A→B:=by intro h;(with_reducible repeat(first|refine QN.B1 ?_|refine QN.N1 ?_|refine WP.S1 ?_|refine WP.B1 ?_|refine WP.R1 ?_));exact h):B:=k h
theorem YF{A B:Prop}(h:A)(k:A→B:=by intro h;(with_reducible repeat(first|refine QN.tx ?_|refine QN.bx ?_|refine QN.B1 ?_|refine QN.N1 ?_));exact h):B:=k h
theorem YG{A B:Prop}(h:A)(k:A→B:=by intro h;(with_reducible repeat(first|refine WP.S1 ?_|refine WP.B1 ?_|refine WP.R1 ?_));exact h):B:=k h
theorem YH{A B:Prop}(h:A)(k:A→B:=by intro h;(with_reducible repeat(first|refine QN.tx ?_|refine QN.bx ?_|refine QN.B1 ?_));exact h):B:=k h
theorem YI{A B:Prop}(h:A)(k:A→B:=by intro h;(with_reducible repeat(first|refine QN.tr ?_|refine QN.br ?_));exact h):B:=k h
theorem YJ{A B:Prop}(h:A)(k:A→B:=by intro h;(with_reducible repeat(first|refine QN.B1 ?_|refine QN.N1 ?_));exact h):B:=k h
theorem YK{A B:Prop}(h:A)(k:A→B:=by intro h;(with_reducible repeat(first|refine WP.S1 ?_|refine WP.B1 ?_));exact h):B:=k h
theorem YL{A B:Prop}(h:A)(k:A→B:=by intro h;(with_reducible repeat(first|refine QN.B1 ?_));exact h):B:=k h
theorem zS{α:Type _}{a:α}{l:List α}:a∈a::l:=List.mem_cons_self ..
theorem zO{α:Type _}(y:α){a:α}{l:List α}(h:a∈l):a∈y::l:=List.mem_cons_of_mem y h
theorem zC{α:Type _}{a:α}{l r:List α}:(a::l)++r=a::(l++r):=yB
theorem zN{α:Type _}(l:List α):[]++l=l:=yC l
end Go
namespace Go.SeqP
inductive Fo where
 |nil
 |cons (i:Nat) (l r n:Fo)
def aB{α:Type}(p:Nat)(x:α)(l:List α):List α:=l.take p++x::l.drop p
theorem _root_.List.ea{α:Type}{x y:α}{l:List α}:x∉y::l↔x≠y∧x∉l:=by simp
theorem qx{α:Type}(x:α)(l:List α):aB 0 x l=x::l:=rfl
theorem eO{α:Type}(p:Nat)(x:α)(a b:List α):aB (a.length+p) x (a++b)=a++aB p x b:=by
 simp [aB,List.take_append,List.drop_append,yD,List.drop_eq_nil_of_le]
theorem sh{α:Type}(p:Nat)(x:α)(a b:List α)(h:p≤a.length):aB p x (a++b)=aB p x a++b:=by
 simp [aB,yE h,List.drop_append_of_le_length h]
theorem bO{α:Type}(p:Nat)(x:α)(l:List α):(aB p x l).length=l.length+1:=by
 simp only [aB,zY,yF,yA,zZ];omega
theorem qP{α:Type}(p:Nat)(x:α)(l:List α):(aB p x l).Perm (x::l):=by
 unfold aB;refine List.perm_middle.trans (List.Perm.cons x ?_);rw [yG]
theorem oB{α:Type}{p:Nat}{x y:α}{l:List α}:y∈aB p x l↔y=x∨y∈l:=by rw [(qP p x l).mem_iff,yH]
theorem iO{α β:Type}(f:α→β)(p:Nat)(x:α)(l:List α):(aB p x l).map f=aB p (f x) (l.map f):=by simp [aB,List.map_take,List.map_drop]
end Go.SeqP
namespace Go.SeqP.Fo
def flat:Fo→List Nat
 |nil=>[]
 |cons i l r n=>l.flat++i::(r.flat++n.flat)
def roots:Fo→List Nat
 |nil=>[]
 |cons i _ _ n=>i::n.roots
def sz(f:Fo):Nat:=f.flat.length
def pre:Nat→Fo→Nat
 |0,_=>0
 |_+1,nil=>0
 |k+1,cons _ l r n=>l.sz+(1+r.sz)+pre k n
def put(x:Nat):Nat→Fo→Fo
 |0,f=>cons x nil nil f
 |_+1,nil=>cons x nil nil nil
 |k+1,cons i l r n=>cons i l r (put x k n)
def jK(p:Nat)(g:Fo→Fo):Fo→Fo
 |nil=>nil
 |cons i l r n=>if i=p then cons i (g l) r n else cons i (jK p g l) (jK p g r) (jK p g n)
def atR(p:Nat)(g:Fo→Fo):Fo→Fo
 |nil=>nil
 |cons i l r n=>if i=p then cons i l (g r) n else cons i (atR p g l) (atR p g r) (atR p g n)
theorem lC(x:Nat):∀(k:Nat) (f:Fo),k≤f.roots.length→(put x k f).roots=aB k x f.roots
 |0,f,_=>rfl
 |k+1,nil,h=>by simp [roots]at h
 |k+1,cons i l r n,h=>by
  have:=lC x k n (by simpa [roots]using h);simp [put,roots,this,aB]
theorem nr(x:Nat):∀(k:Nat) (f:Fo),k≤f.roots.length→(put x k f).flat=aB (pre k f) x f.flat
 |0,f,_=>by simp [put,flat,pre,aB]
 |k+1,nil,h=>by simp [roots]at h
 |k+1,cons i l r n,h=>by
  have ih:=nr x k n (by simpa [roots]using h);have e:l.flat++i::(r.flat++n.flat)=(l.flat++(i::r.flat))++n.flat:=by simp
  simp only [put,flat,pre,ih];rw [e,show l.sz+(1+r.sz)+pre k n=(l.flat++(i::r.flat)).length+pre k n by simp [sz];omega,eO];simp
theorem bT:∀(f:Fo),∀x∈f.roots,x∈f.flat
 |nil,x,h=>by simp [roots]at h
 |cons i l r n,x,h=>by
  simp only [roots,yH]at h;rcases h with rfl|h
  ·simp [flat]
  ·have:=bT n x h;simp [flat,this]
theorem kY:∀(k:Nat) (f:Fo),pre k f≤f.sz
 |0,f=>yI _
 |k+1,nil=>yI _
 |k+1,cons i l r n=>by
  have:=kY k n;simp only [pre,sz,flat,zY,yF]at this ⊢;omega
theorem As:∀(f:Fo),pre f.roots.length f=f.sz
 |nil=>rfl
 |cons i l r n=>by
  have:=As n;simp only [roots,yF,pre,this,sz,flat,zY];omega
def nth:Nat→Fo→Option (Nat×Fo×Fo)
 |_,nil=>none
 |0,cons i l r _=>some (i,l,r)
 |k+1,cons _ _ _ n=>nth k n
theorem nS:∀(k:Nat) (f:Fo) (i:Nat),f.roots[k]?=some i→∃l r,nth k f=some (i,l,r)
 |k,nil,i,h=>by simp [roots]at h
 |0,cons j l r n,i,h=>by simp [roots]at h;subst h;exact ⟨l,r,rfl⟩
 |k+1,cons j l r n,i,h=>nS k n i (by simpa [roots]using h)
theorem nV:∀(k:Nat) (f:Fo) (i:Nat) (l r:Fo),nth k f=some (i,l,r)→pre (k+1) f=pre k f+(l.sz+(1+r.sz))
 |k,nil,i,l,r,h=>by simp [nth]at h
 |0,cons j a b n,i,l,r,h=>by
  simp only [nth,yJ,yK]at h;obtain ⟨rfl,rfl,rfl⟩:=h;simp [pre]
 |k+1,cons j a b n,i,l,r,h=>by
  have:=nV k n i l r h;simp only [pre]at this ⊢;omega
theorem dH{p:Nat}{g:Fo→Fo}:∀(f:Fo),p∉f.flat→jK p g f=f
 |nil,_=>rfl
 |cons i l r n,h=>by
  simp only [flat,yL,yH,not_or]at h;simp only [jK,zX (yM h.2.1),dH l h.1,dH r h.2.2.1,dH n h.2.2.2]
theorem dE{p:Nat}{g:Fo→Fo}:∀(f:Fo),p∉f.flat→atR p g f=f
 |nil,_=>rfl
 |cons i l r n,h=>by
  simp only [flat,yL,yH,not_or]at h;simp only [atR,zX (yM h.2.1),dE l h.1,dE r h.2.2.1,dE n h.2.2.2]
theorem lM{p:Nat}{g:Fo→Fo}:∀(f:Fo),(jK p g f).roots=f.roots
 |nil=>rfl
 |cons i l r n=>by
  unfold jK
  split
  ·rfl
  ·simp [roots,lM n]
theorem lQ{p:Nat}{g:Fo→Fo}:∀(f:Fo),(atR p g f).roots=f.roots
 |nil=>rfl
 |cons i l r n=>by
  unfold atR
  split
  ·rfl
  ·simp [roots,lQ n]
def At:Fo→Option Nat→Bool→Nat→Option Nat→Bool→Fo→Fo→Prop
 |nil,_,_,_,_,_,_,_=>False
 |cons i l r n,pa,sd,p,q,s,a,b=>(p=i∧q=pa∧s=sd∧a=l∧b=r)∨At l (some i) true p q s a b∨At r (some i) false p q s a b∨At n pa sd p q s a b
theorem At.mem{p:Nat}{q:Option Nat}{s:Bool}{a b:Fo}:∀{f:Fo} {pa:Option Nat} {sd:Bool},At f pa sd p q s a b→p∈f.flat∧(∀x∈a.flat,x∈f.flat)∧(∀x∈b.flat,x∈f.flat)
 |nil,_,_,h=>h.elim
 |cons i l r n,pa,sd,h=>by
  rcases h with⟨rfl,_,_,rfl,rfl⟩|h|h|h
  ·exact ⟨by simp [flat],fun x hx=>by simp [flat,hx],fun x hx=>by simp [flat,hx]⟩
  all_goals
   obtain ⟨h1,h2,h3⟩:=At.mem h;exact ⟨by simp [flat,h1],fun x hx=>by simp [flat,h2 x hx],fun x hx=>by simp [flat,h3 x hx]⟩
theorem At.dV{p:Nat}:∀{f:Fo} (pa:Option Nat) (sd:Bool),p∈f.flat→∃q s a b,At f pa sd p q s a b
 |nil,_,_,h=>by simp [flat]at h
 |cons i l r n,pa,sd,h=>by
  simp only [flat,yL,yH]at h;rcases h with h|rfl|h|h
  ·obtain ⟨q,s,a,b,h⟩:=At.dV (some i) true h;exact ⟨q,s,a,b,.inr (.inl h)⟩
  ·exact ⟨pa,sd,l,r,.inl ⟨rfl,rfl,rfl,rfl,rfl⟩⟩
  ·obtain ⟨q,s,a,b,h⟩:=At.dV (some i) false h;exact ⟨q,s,a,b,.inr (.inr (.inl h))⟩
  ·obtain ⟨q,s,a,b,h⟩:=At.dV pa sd h;exact ⟨q,s,a,b,.inr (.inr (.inr h))⟩
theorem fK{i:Nat}{l r n:Fo}(h:(cons i l r n).flat.Nodup):
  l.flat.Nodup∧r.flat.Nodup∧n.flat.Nodup∧i∉l.flat∧i∉r.flat∧i∉n.flat∧(∀x∈l.flat,x∉r.flat∧x∉n.flat)∧(∀x∈r.flat,x∉n.flat):=by
 obtain ⟨h1,h2,h3⟩:=yN.1 h;obtain ⟨h4,h5⟩:=yO.1 h2;obtain ⟨h6,h7,h8⟩:=yN.1 h5;simp only [yL,not_or]at h4;exact ⟨h1,h6,h7,fun hi=>h3 i hi i (zS ..) rfl,h4.1,h4.2,
  fun x hx=>⟨fun hr=>h3 x hx x (by simp [hr]) rfl,fun hn=>h3 x hx x (by simp [hn]) rfl⟩,fun x hx hn=>h8 x hx x hn rfl⟩
theorem At.split{p:Nat}{q:Option Nat}{s:Bool}{a b:Fo}:∀{f:Fo} {pa:Option Nat} {sd:Bool},At f pa sd p q s a b→f.flat.Nodup→
  ∃u v,f.flat=u++(a.flat++p::(b.flat++v))∧∀g:Fo→Fo,(jK p g f).flat=u++((g a).flat++p::(b.flat++v))∧(atR p g f).flat=u++(a.flat++p::((g b).flat++v))
 |nil,_,_,h,_=>h.elim
 |cons i l r n,pa,sd,h,nd=>by
  obtain ⟨n1,n2,n3,i1,i2,i3,d1,d2⟩:=fK nd;rcases h with⟨rfl,_,_,rfl,rfl⟩|h|h|h
  ·exact ⟨[],n.flat,by simp [flat],fun g=>⟨by simp [jK,flat],by simp [atR,flat]⟩⟩
  ·have hm:=h.mem.1;obtain ⟨u,v,e,hg⟩:=At.split h n1;have dP:¬i=p:=fun hh=>i1 (hh▸hm)
   refine ⟨u,v++i::(r.flat++n.flat),by simp [flat,e],fun g=>⟨?_,?_⟩⟩
   ·simp [jK,dP,flat,(hg g).1,dH r (d1 p hm).1,dH n (d1 p hm).2]
   ·simp [atR,dP,flat,(hg g).2,dE r (d1 p hm).1,dE n (d1 p hm).2]
  ·have hm:=h.mem.1;obtain ⟨u,v,e,hg⟩:=At.split h n2;have dP:¬i=p:=fun hh=>i2 (hh▸hm)
   have hl:p∉l.flat:=fun hh=>(d1 p hh).1 hm
   refine ⟨l.flat++i::u,v++n.flat,by simp [flat,e],fun g=>⟨?_,?_⟩⟩
   ·simp [jK,dP,flat,(hg g).1,dH l hl,dH n (d2 p hm)]
   ·simp [atR,dP,flat,(hg g).2,dE l hl,dE n (d2 p hm)]
  ·have hm:=h.mem.1;obtain ⟨u,v,e,hg⟩:=At.split h n3;have dP:¬i=p:=fun hh=>i3 (hh▸hm)
   have hl:p∉l.flat:=fun hh=>(d1 p hh).2 hm
   have hr:p∉r.flat:=fun hh=>d2 p hh hm
   refine ⟨l.flat++i::(r.flat++u),v,by simp [flat,e],fun g=>⟨?_,?_⟩⟩
   ·simp [jK,dP,flat,(hg g).1,dH l hl,dH r hr]
   ·simp [atR,dP,flat,(hg g).2,dE l hl,dE r hr]
theorem At.nd{p:Nat}{q:Option Nat}{s:Bool}{a b:Fo}{f:Fo}{pa:Option Nat}{sd:Bool}(h:At f pa sd p q s a b)(nd:f.flat.Nodup):a.flat.Nodup∧b.flat.Nodup∧p∉a.flat∧p∉b.flat:=by
 obtain ⟨u,v,e,_⟩:=h.split nd;rw [e]at nd;have h1:=(yN.1 nd).2.1;obtain ⟨h2,h3,h4⟩:=yN.1 h1;obtain ⟨h5,h6⟩:=yO.1 h3;simp only [yL,not_or]at h5;exact ⟨h2,(yN.1 h6).1,fun hh=>h4 p hh p (zS ..) rfl,h5.1⟩
theorem At.uniq{p:Nat}{q q':Option Nat}{s s':Bool}{a b a' b':Fo}:∀{f:Fo} {pa:Option Nat} {sd:Bool},At f pa sd p q s a b→At f pa sd p q' s' a' b'→f.flat.Nodup→q=q'∧s=s'∧a=a'∧b=b'
 |nil,_,_,h,_,_=>h.elim
 |cons i l r n,pa,sd,h,h',nd=>by
  obtain ⟨n1,n2,n3,i1,i2,i3,d1,d2⟩:=fK nd;rcases h with⟨rfl,rfl,rfl,rfl,rfl⟩|h|h|h
  ·rcases h' with⟨_,rfl,rfl,rfl,rfl⟩|h'|h'|h'
   ·exact ⟨rfl,rfl,rfl,rfl⟩
   ·exact absurd h'.mem.1 i1
   ·exact absurd h'.mem.1 i2
   ·exact absurd h'.mem.1 i3
  ·have hm:=h.mem.1;rcases h' with⟨rfl,_⟩|h'|h'|h'
   ·exact absurd hm i1
   ·exact At.uniq h h' n1
   ·exact absurd h'.mem.1 (d1 p hm).1
   ·exact absurd h'.mem.1 (d1 p hm).2
  ·have hm:=h.mem.1;rcases h' with⟨rfl,_⟩|h'|h'|h'
   ·exact absurd hm i2
   ·exact absurd hm (d1 p h'.mem.1).1
   ·exact At.uniq h h' n2
   ·exact absurd h'.mem.1 (d2 p hm)
  ·have hm:=h.mem.1;rcases h' with⟨rfl,_⟩|h'|h'|h'
   ·exact absurd hm i3
   ·exact absurd hm (d1 p h'.mem.1).2
   ·exact absurd hm (d2 p h'.mem.1)
   ·exact At.uniq h h' n3
theorem At.wg{x p:Nat}{q:Option Nat}{s:Bool}{a b:Fo}:∀{k:Nat} {f:Fo} {pa:Option Nat} {sd:Bool},At (put x k f) pa sd p q s a b→
  (p=x∧q=pa∧s=sd∧a=nil∧b=nil)∨At f pa sd p q s a b
 |0,f,pa,sd,h=>by
  rcases h with h|h|h|h
  ·exact .inl h
  ·exact h.elim
  ·exact h.elim
  ·exact .inr h
 |k+1,nil,pa,sd,h=>by
  rcases h with h|h|h|h
  ·exact .inl h
  all_goals exact h.elim
 |k+1,cons i l r n,pa,sd,h=>by
  rcases h with h|h|h|h
  ·exact .inr (.inl h)
  ·exact .inr (.inr (.inl h))
  ·exact .inr (.inr (.inr (.inl h)))
  ·rcases At.wg h with h|h
   ·exact .inl h
   ·exact .inr (.inr (.inr (.inr h)))
theorem At.u7{x t p:Nat}{q:Option Nat}{s:Bool}{a b:Fo}{k:Nat}:∀{f:Fo} {pa:Option Nat} {sd:Bool},At (atR t (put x k) f) pa sd p q s a b→f.flat.Nodup→x∉f.flat→t∈f.flat→
  (p=x∧q=some t∧s=false∧a=nil∧b=nil)∨(p=t∧∃c,At f pa sd p q s a c∧b=put x k c)∨(p≠t∧p≠x∧∃c d,At f pa sd p q s c d∧a=atR t (put x k) c∧b=atR t (put x k) d)
 |nil,_,_,h,_,_,_=>h.elim
 |cons i l r n,pa,sd,h,nd,hx,ht=>by
  obtain ⟨n1,n2,n3,i1,i2,i3,d1,d2⟩:=fK nd;have dC:∀{g:Fo} {ga:Option Nat} {gs:Bool},At g ga gs p q s a b→t∉g.flat→x∉g.flat→p≠t∧p≠x∧∃c d,At g ga gs p q s c d∧a=atR t (put x k) c∧b=atR t (put x k) d:=fun hg hn Mh=>by
   obtain ⟨m1,m2,m3⟩:=hg.mem;exact ⟨fun hh=>hn (hh▸m1),fun hh=>Mh (hh▸m1),a,b,hg,(dE a (fun hh=>hn (m2 t hh))).symm,(dE b (fun hh=>hn (m3 t hh))).symm⟩
  simp only [flat,yL,yH,not_or]at hx;unfold atR at h
  split at h
  ·rename_i hi;subst hi;rcases h with⟨rfl,rfl,rfl,rfl,rfl⟩|h|h|h
   ·exact .inr (.inl ⟨rfl,r,.inl ⟨rfl,rfl,rfl,rfl,rfl⟩,rfl⟩)
   ·obtain ⟨k1,k2,c,d,k3,k4⟩:=dC h i1 hx.1;exact .inr (.inr ⟨k1,k2,c,d,.inr (.inl k3),k4⟩)
   ·rcases At.wg h with h|h
    ·exact .inl h
    ·obtain ⟨k1,k2,c,d,k3,k4⟩:=dC h i2 hx.2.2.1;exact .inr (.inr ⟨k1,k2,c,d,.inr (.inr (.inl k3)),k4⟩)
   ·obtain ⟨k1,k2,c,d,k3,k4⟩:=dC h i3 hx.2.2.2;exact .inr (.inr ⟨k1,k2,c,d,.inr (.inr (.inr k3)),k4⟩)
  ·rename_i hi;have step:∀{g:Fo} {ga:Option Nat} {gs:Bool},(∀q' s' c d,At g ga gs p q' s' c d→At (cons i l r n) pa sd p q' s' c d)→
     ((p=x∧q=some t∧s=false∧a=nil∧b=nil)∨(p=t∧∃c,At g ga gs p q s a c∧b=put x k c)∨(p≠t∧p≠x∧∃c d,At g ga gs p q s c d∧a=atR t (put x k) c∧b=atR t (put x k) d))→
     ((p=x∧q=some t∧s=false∧a=nil∧b=nil)∨(p=t∧∃c,At (cons i l r n) pa sd p q s a c∧b=put x k c)∨(p≠t∧p≠x∧∃c d,At (cons i l r n) pa sd p q s c d∧a=atR t (put x k) c∧b=atR t (put x k) d)):=fun hg h=>by
    rcases h with h|⟨h1,c,h2,h3⟩|⟨h1,h2,c,d,h3,h4⟩
    ·exact .inl h
    ·exact .inr (.inl ⟨h1,c,hg _ _ _ _ h2,h3⟩)
    ·exact .inr (.inr ⟨h1,h2,c,d,hg _ _ _ _ h3,h4⟩)
   have sub:∀{g:Fo} {ga:Option Nat} {gs:Bool},At (atR t (put x k) g) ga gs p q s a b→x∉g.flat→(t∈g.flat→(p=x∧q=some t∧s=false∧a=nil∧b=nil)∨(p=t∧∃c,At g ga gs p q s a c∧b=put x k c)∨(p≠t∧p≠x∧∃c d,At g ga gs p q s c d∧a=atR t (put x k) c∧b=atR t (put x k) d))→
     ((p=x∧q=some t∧s=false∧a=nil∧b=nil)∨(p=t∧∃c,At g ga gs p q s a c∧b=put x k c)∨(p≠t∧p≠x∧∃c d,At g ga gs p q s c d∧a=atR t (put x k) c∧b=atR t (put x k) d)):=fun{g} _ _ hg UX mN=>by
    by_cases Ps:t∈g.flat
    ·exact mN Ps
    ·rw [dE g Ps]at hg;exact .inr (.inr (dC hg Ps UX))
   rcases h with⟨rfl,rfl,rfl,rfl,rfl⟩|h|h|h
   ·exact .inr (.inr ⟨hi,fun hh=>hx.2.1 hh.symm,l,r,.inl ⟨rfl,rfl,rfl,rfl,rfl⟩,rfl,rfl⟩)
   ·exact step (fun _ _ _ _ h=>.inr (.inl h)) (sub h hx.1 (fun ht=>At.u7 h n1 hx.1 ht))
   ·exact step (fun _ _ _ _ h=>.inr (.inr (.inl h))) (sub h hx.2.2.1 (fun ht=>At.u7 h n2 hx.2.2.1 ht))
   ·exact step (fun _ _ _ _ h=>.inr (.inr (.inr h))) (sub h hx.2.2.2 (fun ht=>At.u7 h n3 hx.2.2.2 ht))
theorem At.wq{x t p:Nat}{q:Option Nat}{s:Bool}{a b:Fo}{k:Nat}:∀{f:Fo} {pa:Option Nat} {sd:Bool},At (jK t (put x k) f) pa sd p q s a b→f.flat.Nodup→x∉f.flat→t∈f.flat→
  (p=x∧q=some t∧s=true∧a=nil∧b=nil)∨(p=t∧∃c,At f pa sd p q s c b∧a=put x k c)∨(p≠t∧p≠x∧∃c d,At f pa sd p q s c d∧a=jK t (put x k) c∧b=jK t (put x k) d)
 |nil,_,_,h,_,_,_=>h.elim
 |cons i l r n,pa,sd,h,nd,hx,ht=>by
  obtain ⟨n1,n2,n3,i1,i2,i3,d1,d2⟩:=fK nd;have dC:∀{g:Fo} {ga:Option Nat} {gs:Bool},At g ga gs p q s a b→t∉g.flat→x∉g.flat→p≠t∧p≠x∧∃c d,At g ga gs p q s c d∧a=jK t (put x k) c∧b=jK t (put x k) d:=fun hg hn Mh=>by
   obtain ⟨m1,m2,m3⟩:=hg.mem;exact ⟨fun hh=>hn (hh▸m1),fun hh=>Mh (hh▸m1),a,b,hg,(dH a (fun hh=>hn (m2 t hh))).symm,(dH b (fun hh=>hn (m3 t hh))).symm⟩
  simp only [flat,yL,yH,not_or]at hx;unfold jK at h
  split at h
  ·rename_i hi;subst hi;rcases h with⟨rfl,rfl,rfl,rfl,rfl⟩|h|h|h
   ·exact .inr (.inl ⟨rfl,l,.inl ⟨rfl,rfl,rfl,rfl,rfl⟩,rfl⟩)
   ·rcases At.wg h with h|h
    ·exact .inl h
    ·obtain ⟨k1,k2,c,d,k3,k4⟩:=dC h i1 hx.1;exact .inr (.inr ⟨k1,k2,c,d,.inr (.inl k3),k4⟩)
   ·obtain ⟨k1,k2,c,d,k3,k4⟩:=dC h i2 hx.2.2.1;exact .inr (.inr ⟨k1,k2,c,d,.inr (.inr (.inl k3)),k4⟩)
   ·obtain ⟨k1,k2,c,d,k3,k4⟩:=dC h i3 hx.2.2.2;exact .inr (.inr ⟨k1,k2,c,d,.inr (.inr (.inr k3)),k4⟩)
  ·rename_i hi;have step:∀{g:Fo} {ga:Option Nat} {gs:Bool},(∀q' s' c d,At g ga gs p q' s' c d→At (cons i l r n) pa sd p q' s' c d)→
     ((p=x∧q=some t∧s=true∧a=nil∧b=nil)∨(p=t∧∃c,At g ga gs p q s c b∧a=put x k c)∨(p≠t∧p≠x∧∃c d,At g ga gs p q s c d∧a=jK t (put x k) c∧b=jK t (put x k) d))→
     ((p=x∧q=some t∧s=true∧a=nil∧b=nil)∨(p=t∧∃c,At (cons i l r n) pa sd p q s c b∧a=put x k c)∨(p≠t∧p≠x∧∃c d,At (cons i l r n) pa sd p q s c d∧a=jK t (put x k) c∧b=jK t (put x k) d)):=fun hg h=>by
    rcases h with h|⟨h1,c,h2,h3⟩|⟨h1,h2,c,d,h3,h4⟩
    ·exact .inl h
    ·exact .inr (.inl ⟨h1,c,hg _ _ _ _ h2,h3⟩)
    ·exact .inr (.inr ⟨h1,h2,c,d,hg _ _ _ _ h3,h4⟩)
   have sub:∀{g:Fo} {ga:Option Nat} {gs:Bool},At (jK t (put x k) g) ga gs p q s a b→x∉g.flat→(t∈g.flat→(p=x∧q=some t∧s=true∧a=nil∧b=nil)∨(p=t∧∃c,At g ga gs p q s c b∧a=put x k c)∨(p≠t∧p≠x∧∃c d,At g ga gs p q s c d∧a=jK t (put x k) c∧b=jK t (put x k) d))→
     ((p=x∧q=some t∧s=true∧a=nil∧b=nil)∨(p=t∧∃c,At g ga gs p q s c b∧a=put x k c)∨(p≠t∧p≠x∧∃c d,At g ga gs p q s c d∧a=jK t (put x k) c∧b=jK t (put x k) d)):=fun{g} _ _ hg UX mN=>by
    by_cases Ps:t∈g.flat
    ·exact mN Ps
    ·rw [dH g Ps]at hg;exact .inr (.inr (dC hg Ps UX))
   rcases h with⟨rfl,rfl,rfl,rfl,rfl⟩|h|h|h
   ·exact .inr (.inr ⟨hi,fun hh=>hx.2.1 hh.symm,l,r,.inl ⟨rfl,rfl,rfl,rfl,rfl⟩,rfl,rfl⟩)
   ·exact step (fun _ _ _ _ h=>.inr (.inl h)) (sub h hx.1 (fun ht=>At.wq h n1 hx.1 ht))
   ·exact step (fun _ _ _ _ h=>.inr (.inr (.inl h))) (sub h hx.2.2.1 (fun ht=>At.wq h n2 hx.2.2.1 ht))
   ·exact step (fun _ _ _ _ h=>.inr (.inr (.inr h))) (sub h hx.2.2.2 (fun ht=>At.wq h n3 hx.2.2.2 ht))
def path(up:List Nat):Fo→Nat→List Nat
 |nil,_=>[]
 |cons i l r n,p=>if i=p then p::up else if p∈l.flat then path (i::up) l p else if p∈r.flat then path (i::up) r p else path up n p
theorem At.path{p:Nat}{q:Option Nat}{s:Bool}{a b:Fo}:∀{f:Fo} {up:List Nat} {sd:Bool},At f up.head? sd p q s a b→f.flat.Nodup→(∀k∈up,k∉f.flat)→
  ∃t,Fo.path up f p=p::t∧q=t.head?∧(t=up∨∃q',q=some q'∧Fo.path up f q'=t∧q'∈f.flat)
 |nil,_,_,h,_,_=>h.elim
 |cons i l r n,up,sd,h,nd,hu=>by
  obtain ⟨n1,n2,n3,i1,i2,i3,d1,d2⟩:=fK nd;have uj:Fo.path up (cons i l r n) i=i::up:=by simp [Fo.path]
  rcases h with⟨rfl,rfl,_,_,_⟩|h|h|h
  ·exact ⟨up,uj,rfl,.inl rfl⟩
  ·have hm:=h.mem.1;obtain ⟨t,e,hq,ht⟩:=At.path (f:=l) (up:=i::up) h n1 (fun k hk hl=>by
    rcases yH.1 hk with rfl|hk
    ·exact i1 hl
    ·exact hu k hk (by simp [flat,hl]))
   have dP:¬i=p:=fun hh=>i1 (hh▸hm)
   refine ⟨t,by simp [Fo.path,dP,hm,e],hq,.inr ?_⟩;rcases ht with rfl|⟨q',rfl,h1,h2⟩
   ·exact ⟨i,hq,uj,by simp [flat]⟩
   ·have Cb:¬i=q':=fun hh=>i1 (hh▸h2)
    exact ⟨q',rfl,by simp [Fo.path,Cb,h2,h1],by simp [flat,h2]⟩
  ·have hm:=h.mem.1;have hl:p∉l.flat:=fun hh=>(d1 p hh).1 hm
   obtain ⟨t,e,hq,ht⟩:=At.path (f:=r) (up:=i::up) h n2 (fun k hk hl=>by
    rcases yH.1 hk with rfl|hk
    ·exact i2 hl
    ·exact hu k hk (by simp [flat,hl]))
   have dP:¬i=p:=fun hh=>i2 (hh▸hm)
   refine ⟨t,by simp [Fo.path,dP,hl,hm,e],hq,.inr ?_⟩;rcases ht with rfl|⟨q',rfl,h1,h2⟩
   ·exact ⟨i,hq,uj,by simp [flat]⟩
   ·have Cb:¬i=q':=fun hh=>i2 (hh▸h2)
    have vg:q'∉l.flat:=fun hh=>(d1 q' hh).1 h2
    exact ⟨q',rfl,by simp [Fo.path,Cb,vg,h2,h1],by simp [flat,h2]⟩
  ·have hm:=h.mem.1;have hl:p∉l.flat:=fun hh=>(d1 p hh).2 hm
   have hr:p∉r.flat:=fun hh=>d2 p hh hm
   obtain ⟨t,e,hq,ht⟩:=At.path (f:=n) (up:=up) h n3 (fun k hk hl=>hu k hk (by simp [flat,hl]));have dP:¬i=p:=fun hh=>i3 (hh▸hm)
   refine ⟨t,by simp [Fo.path,dP,hl,hr,e],hq,?_⟩;rcases ht with rfl|⟨q',rfl,h1,h2⟩
   ·exact .inl rfl
   ·have Cb:¬i=q':=fun hh=>i3 (hh▸h2)
    have vg:q'∉l.flat:=fun hh=>(d1 q' hh).2 h2
    have iQ:q'∉r.flat:=fun hh=>d2 q' hh h2
    exact .inr ⟨q',rfl,by simp [Fo.path,Cb,vg,iQ,h1],by simp [flat,h2]⟩
theorem At.gO{x p:Nat}{q:Option Nat}{s:Bool}{a b:Fo}:∀{f:Fo} {up:List Nat} {pa:Option Nat} {sd:Bool},At f pa sd x q s a b→f.flat.Nodup→x∉up→p∈f.flat→
  (x∈Fo.path up f p↔x=p∨p∈a.flat∨p∈b.flat)
 |nil,_,_,_,h,_,_,_=>h.elim
 |cons i l r n,up,pa,sd,h,nd,hu,hp=>by
  obtain ⟨n1,n2,n3,i1,i2,i3,d1,d2⟩:=fK nd;have off:∀(g:Fo) (up:List Nat),x∉up→x∉g.flat→x∉Fo.path up g p:=by
   intro g
   induction g with
   |nil=>intro up _ _;simp [Fo.path]
   |cons j c d e ih1 ih2 ih3=>
    intro up h1 h2;simp only [flat,yL,yH,not_or]at h2;unfold Fo.path
    split
    ·rename_i hj;subst hj;simp [h1,h2.2.1]
    ·split
     ·exact ih1 _ (by simp [h1,h2.2.1]) h2.1
     ·split
      ·exact ih2 _ (by simp [h1,h2.2.1]) h2.2.2.1
      ·exact ih3 _ h1 h2.2.2.2
  have on:∀(g:Fo) (up:List Nat),x∈up→p∈g.flat→x∈Fo.path up g p:=by
   intro g
   induction g with
   |nil=>intro up _ h;simp [flat]at h
   |cons j c d e ih1 ih2 ih3=>
    intro up h1 h2;simp only [flat,yL,yH]at h2;unfold Fo.path
    split
    ·simp [h1]
    ·rename_i hj
     split
     ·rename_i hc;exact ih1 _ (by simp [h1]) hc
     ·rename_i hc
      split
      ·rename_i hd;exact ih2 _ (by simp [h1]) hd
      ·rename_i hd;refine ih3 _ h1 ?_;rcases h2 with h2|h2|h2|h2
       ·exact absurd h2 hc
       ·exact absurd h2.symm hj
       ·exact absurd h2 hd
       ·exact h2
  simp only [flat,yL,yH]at hp;rcases h with⟨rfl,_,_,rfl,rfl⟩|h|h|h
  ·
   unfold Fo.path
   split
   ·rename_i hh;subst hh;simp
   ·rename_i dP
    split
    ·rename_i hl;simp [hl,on a (x::up) YA hl]
    ·rename_i hl
     split
     ·rename_i hr;simp [hr,on b (x::up) YA hr]
     ·rename_i hr;have:=off n up hu i3;simp [hl,hr,dP,this]
  ·obtain ⟨m1,m2,m3⟩:=h.mem;have Iq:¬i=x:=fun hh=>i1 (hh▸m1)
   unfold Fo.path
   split
   ·rename_i hh;subst hh;have GV:x≠i:=yM Iq;have ha:i∉a.flat:=fun hh=>i1 (m2 i hh)
    have hb:i∉b.flat:=fun hh=>i1 (m3 i hh)
    simp [hu,GV,ha,hb]
   ·split
    ·rename_i hl;exact At.gO h n1 (List.ea.2 ⟨yM Iq,hu⟩) hl
    ·rename_i hl;have hR:¬(x=p∨p∈a.flat∨p∈b.flat):=by
      rintro (rfl|h1|h1)
      ·exact hl m1
      ·exact hl (m2 p h1)
      ·exact hl (m3 p h1)
     refine iff_of_false ?_ hR
     split
     ·exact off r (i::up) (List.ea.2 ⟨yM Iq,hu⟩) (d1 x m1).1
     ·exact off n up hu (d1 x m1).2
  ·obtain ⟨m1,m2,m3⟩:=h.mem;have Iq:¬i=x:=fun hh=>i2 (hh▸m1)
   have qa:x∉l.flat:=fun hh=>(d1 x hh).1 m1
   unfold Fo.path
   split
   ·rename_i hh;subst hh;have GV:x≠i:=yM Iq;have ha:i∉a.flat:=fun hh=>i2 (m2 i hh)
    have hb:i∉b.flat:=fun hh=>i2 (m3 i hh)
    simp [hu,GV,ha,hb]
   ·split
    ·rename_i hl;refine iff_of_false (off l (i::up) (List.ea.2 ⟨yM Iq,hu⟩) qa) ?_;rintro (rfl|h1|h1)
     ·exact qa hl
     ·exact (d1 p hl).1 (m2 p h1)
     ·exact (d1 p hl).1 (m3 p h1)
    ·rename_i hl
     split
     ·rename_i hr;exact At.gO h n2 (List.ea.2 ⟨yM Iq,hu⟩) hr
     ·rename_i hr;refine iff_of_false (off n up hu (d2 x m1)) ?_;rintro (rfl|h1|h1)
      ·exact hr m1
      ·exact hr (m2 p h1)
      ·exact hr (m3 p h1)
  ·obtain ⟨m1,m2,m3⟩:=h.mem;have Iq:¬i=x:=fun hh=>i3 (hh▸m1)
   have qa:x∉l.flat:=fun hh=>(d1 x hh).2 m1
   have PD:x∉r.flat:=fun hh=>d2 x hh m1
   unfold Fo.path
   split
   ·rename_i hh;subst hh;have GV:x≠i:=yM Iq;have ha:i∉a.flat:=fun hh=>i3 (m2 i hh)
    have hb:i∉b.flat:=fun hh=>i3 (m3 i hh)
    simp [hu,GV,ha,hb]
   ·rename_i Xl
    split
    ·rename_i hl;refine iff_of_false (off l (i::up) (List.ea.2 ⟨yM Iq,hu⟩) qa) ?_;rintro (rfl|h1|h1)
     ·exact qa hl
     ·exact (d1 p hl).2 (m2 p h1)
     ·exact (d1 p hl).2 (m3 p h1)
    ·rename_i hl
     split
     ·rename_i hr;refine iff_of_false (off r (i::up) (List.ea.2 ⟨yM Iq,hu⟩) PD) ?_;rintro (rfl|h1|h1)
      ·exact PD hr
      ·exact d2 p hr (m2 p h1)
      ·exact d2 p hr (m3 p h1)
     ·rename_i hr;refine At.gO h n3 hu ?_;rcases hp with h1|h1|h1|h1
      ·exact absurd h1 hl
      ·exact absurd h1.symm Xl
      ·exact absurd h1 hr
      ·exact h1
end Go.SeqP.Fo
namespace Go.Ev
open Go.RowKit
abbrev Env:=List (Nat×Value)
def Env.get:Env→Nat→Option Value
 |[],_=>none
 |(t,v)::r,x=>match Nat.beq t x with
  |true=>some v
  |false=>Env.get r x
def Env.ev(e:Env):Operand→Option Value
 |.tmp t=>e.get t
 |.const v=>some v
 |.global g=>some (.pointer (some ⟨g,0,none⟩))
 |.func f=>some (.func (.func f) #[] #[])
def Env.kj(e:Env):List Operand→Option (List Value)
 |[]=>some []
 |x::r=>match e.ev x with
  |some v=>match Env.kj e r with
   |some vs=>some (v::vs)
   |none=>none
  |none=>none
structure Fr where
 ds:List Deferred
 ro:Option Nat
def bJ(ro:Option Nat):Fence:={Fence.wide with round:=ro}
structure Fits(n:Nat)(e:Env)(D:Fr)(a:Act):Prop where
 size:a.tmps.size=n
 defers:a.defers=D.ds
 get:∀t v,e.get t=some v→a.tmps[t]?=some v
structure bS(m w:World):Prop where
 heap:w.heap=m.heap
 os:w.os=m.os
 output:w.output=m.output
 tape:w.tape=m.tape
 drawn:m.drawn≤w.drawn
theorem bS.refl(w:World):bS w w:=⟨rfl,rfl,rfl,rfl,yP _⟩
theorem bS.drew{m w:World}(h:bS m w):bS m w.drew:=⟨h.heap,h.os,h.output,h.tape,yQ h.drawn⟩
theorem bS.cell{m w:World}(h:bS m w)(a:Addr):w.cell? a=m.cell? a:=by simp [World.cell?,h.heap]
theorem bS.alloc{m w:World}(h:bS m w)(o:Obj):bS (m.alloc o) (w.alloc o):=⟨by show w.heap.push o=m.heap.push o;rw [h.heap],h.os,h.output,h.tape,h.drawn⟩
section
variable{P:Program} {n:Nat} {e e':Env} {D:Fr} {a:Act} {v:Value}
theorem dz{xs:Array Value}{t:Nat}{v:Value}(h:xs[t]?=some v):xs.getD t undef=v:=by
 simp [Array.getD_eq_getD_getElem?,h]
theorem Fits.ev(h:Fits n e D a){x:Operand}(hx:e.ev x=some v):a.eval x=v:=by
 cases x with
 |tmp t=>exact dz (h.get t v hx)
 |const c=>exact yR hx
 |global g=>exact yR hx
 |func f=>exact yR hx
theorem Fits.kj(h:Fits n e D a):∀{l:List Operand} {vs:List Value},e.kj l=some vs→l.map a.eval=vs
 |[],vs,hl=>by injection hl
 |x::r,vs,hl=>by
  unfold Env.kj at hl
  split at hl
  ·rename_i v hv
   split at hl
   ·rename_i vs' Vn
    injection hl with hl
    subst hl;simp [h.ev hv,h.kj Vn]
   ·cases hl
  ·cases hl
def aQ(n:Nat)(dst:Option Tmp)(v:Value)(e:Env):Option Env:=
 match dst with
 |none=>some e
 |some d=>match Nat.blt d n with
  |true=>some ((d,v)::e)
  |false=>none
theorem Fits.put(h:Fits n e D a){dst:Option Tmp}(hp:aQ n dst v e=some e'):Fits n e' D (a.put dst v):=by
 cases dst with
 |none=>simp only [aQ,yJ]at hp;subst hp;exact h
 |some d=>
  simp only [aQ]at hp
  split at hp
  ·rename_i hd
   injection hp with hp
   subst hp;have ug:d<n:=by simpa [Nat.blt_eq]using hd
   refine ⟨by simp [Act.put,h.size],h.defers,fun t u ht=>?_⟩;simp only [Act.put];unfold Env.get at ht
   split at ht
   ·rename_i hb;have:d=t:=by simpa using hb
    subst this
    injection ht with ht
    subst ht;rw [Array.getElem?_setIfInBounds];simp [h.size,ug]
   ·rename_i hb;have:d≠t:=Nat.ne_of_beq_eq_false hb;rw [Array.getElem?_setIfInBounds];simp [this,h.get t u ht]
  ·cases hp
def Sub(e':Env)(e:Env):Prop:=∀p∈e',e.get p.1=some p.2
theorem Sub.nil{e:Env}:Sub [] e:=fun _ h=>by cases h
theorem Sub.C1{t:Nat}{v:Value}{e' e:Env}(h:e.get t=some v)(hs:Sub e' e):Sub ((t,v)::e') e:=fun p hp=>by
 cases hp with
 |head=>exact h
 |tail _ hp=>exact hs p hp
theorem Env.get_mem{e:Env}{t:Nat}{v:Value}:e.get t=some v→(t,v)∈e:=by
 induction e with
 |nil=>intro h;cases h
 |cons p r ih=>
  obtain ⟨p1,p2⟩:=p;intro h;unfold Env.get at h
  split at h
  ·rename_i hb;have hb:p1=t:=by simpa using hb
   injection h with h
   subst hb;subst h;exact zS ..
  ·exact zO _ (ih h)
theorem Fits.sub(h:Fits n e D a)(hs:Sub e' e):Fits n e' D a:=
 ⟨h.size,h.defers,fun t v ht=>h.get t v (hs (t,v) (Env.get_mem ht))⟩
def gd(ops:Array Oper)(e:Env)(o:Oper):Option Bool:=
 match o.guard with
 |none=>some true
 |some g=>match ops[g.1]?with
  |some oj=>match oj.dst with
   |some t=>match e.get t with
    |some (.bool b)=>some (b==g.2)
    |some (.tuple _)=>some false
    |_=>none
   |none=>some false
  |none=>some false
theorem cZ{ops:Array Oper}{o:Oper}{b:Bool}(h:Fits n e D a)(hg:gd ops e o=some b):Region.wanted o (yielded ops a.tmps)=b:=by
 unfold gd at hg;unfold Region.wanted
 split at hg
 ·rename_i h0;rw [h0];simpa using hg
 ·rename_i g h0;obtain ⟨j,want⟩:=g;rw [h0];simp only [yielded]
  split at hg
  ·rename_i oj hj;have x8:ops[j]?=some oj:=hj
   split at hg
   ·rename_i t ht
    split at hg
    ·rename_i b' hb;simp [x8,ht,h.get t _ hb];simpa using hg
    ·rename_i vs hb;simp [x8,ht,h.get t _ hb];simpa using hg
    ·cases hg
   ·rename_i ht;simp [x8,ht];simpa using hg
  ·rename_i hj;have x8:ops[j]?=none:=hj;simp [x8];simpa using hg
end
def RL(P:Program)(ops:Array Oper)(Q:Exit→Act→World→Prop)(l:List Oper)(n:Nat)(e:Env)(D:Fr)(m:World):Prop:=
 ∀a w,Fits n e D a→bS m w→wpListIn (bJ D.ro) 0 P ops Q l a w
def WP(P:Program)(c:Code)(Q:Exit→Act→World→Prop)(n:Nat)(e:Env)(D:Fr)(m:World):Prop:=
 ∀a w,Fits n e D a→bS m w→c.wpIn (bJ D.ro) 0 P Q a w
def QN(Q:Exit→Act→World→Prop)(x:Exit)(n:Nat)(e:Env)(D:Fr)(m:World):Prop:=
 ∀a w,Fits n e D a→bS m w→Q x a w
section
variable{P:Program} {ops:Array Oper} {Q:Exit→Act→World→Prop} {l rest:List Oper} {o:Oper} {n:Nat} {e e':Env} {D:Fr} {m:World} {c x y:Code}
theorem RL.N1(h:QN Q .normal n e D m):RL P ops Q [] n e D m:=fun a w hf hs=>h a w hf hs
theorem RL.sub(hs:Sub e' e)(h:RL P ops Q l n e' D m):RL P ops Q l n e D m:=fun a w hf hw=>h a w (hf.sub hs) hw
theorem RL.eqv{t:Nat}{v v':Value}(hv:v=v')(h:RL P ops Q l n ((t,v')::e) D m):RL P ops Q l n ((t,v)::e) D m:=by subst hv;exact h
theorem WP.eqv{t:Nat}{v v':Value}(hv:v=v')(h:WP P c Q n ((t,v')::e) D m):WP P c Q n ((t,v)::e) D m:=by subst hv;exact h
theorem QN.sub{x:Exit}(hs:Sub e' e)(h:QN Q x n e' D m):QN Q x n e D m:=fun a w hf hw=>h a w (hf.sub hs) hw
theorem RL.step(hg:gd ops e o=some true)(h:∀a w,Fits n e D a→bS m w→o.wpIn (bJ D.ro) 0 P a w (wpListIn (bJ D.ro) 0 P ops Q rest) Q):RL P ops Q (o::rest) n e D m:=by
 intro a w hf hs;unfold wpListIn;rw [cZ hf hg,yS rfl];exact h a w hf hs
theorem RL.skip(hg:gd ops e o=some false)(hp:aQ n o.dst undef e=some e')(h:RL P ops Q rest n e' D m):RL P ops Q (o::rest) n e D m:=by
 intro a w hf hs;unfold wpListIn;rw [cZ hf hg,zX J8];exact ⟨fun _ _=>trivial,h _ w (hf.put hp) hs⟩
theorem RL.run(hg:gd ops e o=some true)(hd:∀c,o.op≠.defer c)(h:∀a w,Fits n e D a→bS m w→o.uponIn (bJ D.ro) 0 P a (wpListIn (bJ D.ro) 0 P ops Q rest) Q ((execOp a.eval o).run P w)):RL P ops Q (o::rest) n e D m:=
 RL.step hg fun a w hf hs=>⟨fun _ _=>trivial,by rw [Oper.semAt_eq _ _ _ hd];exact h a w hf hs⟩
theorem IB{o:Oper}{ρ:Operand→Value}{w w':World}{nx:Next}(h:(execOp ρ o).run P w=.ok nx w')(hn:∀d,nx≠.defer d)(c:Call):o.op≠.defer c:=by
 intro hc;simp only [execOp,hc,Sem.run_bind]at h;cases hr:(resolve ρ c o.type).run P w with
 |ok d w1=>rw [hr]at h;simp [Result.andThen]at h;exact hn d h.1.symm
 |halt x w1=>rw [hr]at h;simp [Result.andThen]at h
theorem RL.AL(hg:gd ops e o=some true)(h:∀a w,Fits n e D a→bS m w→∃nx w',(execOp a.eval o).run P w=.ok nx w'∧(∀d,nx≠.defer d)∧o.uponIn (bJ D.ro) 0 P a (wpListIn (bJ D.ro) 0 P ops Q rest) Q (.ok nx w')):RL P ops Q (o::rest) n e D m:=
 RL.step hg fun a w hf hs=>by
  obtain ⟨nx,w',h1,h2,h3⟩:=h a w hf hs;refine ⟨fun _ _=>trivial,?_⟩;rw [Oper.semAt_eq _ _ _ (IB h1 h2),h1];exact h3
theorem RL.value(v:Value)(hg:gd ops e o=some true)(hr:∀a w,Fits n e D a→bS m w→(execOp a.eval o).run P w=.ok (.value v) w)
  (hp:aQ n o.dst v e=some e')(h:RL P ops Q rest n e' D m):RL P ops Q (o::rest) n e D m:=
 RL.AL hg fun a w hf hs=>⟨_,w,hr a w hf hs,(fun _ hh=>by cases hh),h _ w (hf.put hp) hs⟩
theorem RL.fX(v:Value)(m':World)(hg:gd ops e o=some true)(hr:∀a w,Fits n e D a→bS m w→∃w',(execOp a.eval o).run P w=.ok (.value v) w'∧bS m' w')
  (hp:aQ n o.dst v e=some e')(h:RL P ops Q rest n e' D m'):RL P ops Q (o::rest) n e D m:=
 RL.AL hg fun a w hf hs=>by
  obtain ⟨w',h1,h2⟩:=hr a w hf hs;exact ⟨_,w',h1,(fun _ hh=>by cases hh),h _ w' (hf.put hp) h2⟩
theorem RL.Cy(m':World)(hg:gd ops e o=some true)(hr:∀a w,Fits n e D a→bS m w→∃w',(execOp a.eval o).run P w=.ok .skip w'∧bS m' w')
  (hp:aQ n o.dst undef e=some e')(h:RL P ops Q rest n e' D m'):RL P ops Q (o::rest) n e D m:=
 RL.AL hg fun a w hf hs=>by
  obtain ⟨w',h1,h2⟩:=hr a w hf hs;exact ⟨_,w',h1,(fun _ hh=>by cases hh),h _ w' (hf.put hp) h2⟩
theorem RL.uy{R:Value→World→Prop}(hg:gd ops e o=some true)(hr:∀a w,Fits n e D a→bS m w→∃v w' m',(execOp a.eval o).run P w=.ok (.value v) w'∧bS m' w'∧R v m')
  (h:∀v m',R v m'→∃e',aQ n o.dst v e=some e'∧RL P ops Q rest n e' D m'):RL P ops Q (o::rest) n e D m:=
 RL.AL hg fun a w hf hs=>by
  obtain ⟨v,w',m',h1,h2,h3⟩:=hr a w hf hs;obtain ⟨e',hp,hk⟩:=h v m' h3;exact ⟨_,w',h1,(fun _ hh=>by cases hh),hk _ w' (hf.put hp) h2⟩
theorem WP.R1{id:Nat}{l:List Oper}(h:RL P l.toArray Q l n e D m):WP P (.region id l.toArray false) Q n e D m:=
 fun a w hf hs=>wpIn_region_lit (h a w hf hs)
theorem WP.S1{ds:List Deferred}{ro:Option Nat}(h:WP P x (Exit.then (fun a w=>y.wpIn (bJ ro) 0 P Q a w) Q) n e ⟨ds,ro⟩ m):WP P (.seq x y) Q n e ⟨ds,ro⟩ m:=fun a w hf hs=>wpIn_seq (h a w hf hs)
theorem WP.B1{id:Nat}(h:WP P c (Exit.inBlock id Q) n e D m):WP P (.block id c) Q n e D m:=fun a w hf hs=>wpIn_block (h a w hf hs)
theorem WP.skip(h:QN Q .normal n e D m):WP P .skip Q n e D m:=fun a w hf hs=>wpIn_skip (h a w hf hs)
theorem WP.exit{id:Nat}(h:QN Q (.exit id) n e D m):WP P (.exit id) Q n e D m:=fun a w hf hs=>wpIn_exit (h a w hf hs)
theorem WP.ret(h:QN Q .ret n e D m):WP P .ret Q n e D m:=fun a w hf hs=>wpIn_ret (h a w hf hs)
theorem WP.cond{c:Operand}{b:Bool}(hc:e.ev c=some (.bool b))(ht:b=true→WP P x Q n e D m)(hf:b=false→WP P y Q n e D m):WP P (.cond c x y) Q n e D m:=
 fun a w pf hs=>wpIn_cond_split (pf.ev hc) (fun hb=>ht hb a w pf hs) (fun hb=>hf hb a w pf hs)
theorem WP.da{c:Operand}(hc:e.ev c=some (.bool true))(ht:WP P x Q n e D m):WP P (.cond c x y) Q n e D m:=
 fun a w pf hs=>wpIn_cond_true (pf.ev hc) (ht a w pf hs)
theorem WP.bg{c:Operand}(hc:e.ev c=some (.bool false))(ht:WP P y Q n e D m):WP P (.cond c x y) Q n e D m:=
 fun a w pf hs=>wpIn_cond_false (pf.ev hc) (ht a w pf hs)
def C6{X:Type}(E:X→Env)(I:X→World→Prop)(μ:X→Nat)(n:Nat)(D:Fr)(x:X)(a:Act)(w:World):Prop:=
 ∃x' m',Fits n (E x') D a∧bS m' w∧I x' m'∧μ x'<μ x
theorem WP.loop{X:Type}(E:X→Env)(I:X→World→Prop)(μ:X→Nat)(x0:X)(hs:Sub (E x0) e)(h0:I x0 m)
  (round:∀x m,I x m→WP P c (Exit.then (C6 E I μ n D x) Q) n (E x) D m):WP P (.loop c) Q n e D m:=by
 intro a w hf hw b k cs Vq hb hr;have key:∀(k':Nat) (x:X) (a:Act) (w m:World),μ x=k'→Fits n (E x) D a→bS m w→I x m→
   ∃ex a' w',Q ex a' w'∧ArrivesIn (Machine.fenced P (bJ D.ro)) P (lone (b.atR a (.code c::.inLoop c::k)) cs w) b k cs ex a' w':=by
  intro k'
  induction k' using Nat.strongRecOn with
  |_ k' ih=>
   intro x a w m hk VR HM hI;obtain ⟨ex,a₁,w₁,hq,iB⟩:=round x m hI a w VR HM b (.inLoop c::k) cs Vq hb hr;cases ex with
   |normal=>
    obtain ⟨x',m',NZ,OB,KW,aM⟩:=hq;obtain ⟨e₂,a₂,w₂,hq₂,harr₂⟩:=ih (μ x') (hk▸aM) x' a₁ w₁ m' rfl NZ OB KW;exact ⟨e₂,a₂,w₂,hq₂,.of_steps (StepsIn.trans iB (.one (fenced_calm hb hr rfl) stepR_inLoop)) harr₂⟩
   |exit id=>exact ⟨_,a₁,w₁,hq,.pass (x:=.inLoop c) rfl (fun _ _=>.inl YA) iB⟩
   |goto l=>exact ⟨_,a₁,w₁,hq,.pass (x:=.inLoop c) rfl (fun _ _=>.inl YA) iB⟩
   |ret=>exact ⟨_,a₁,w₁,hq,.pass (x:=.inLoop c) rfl (fun _ _=>.inl YA) iB⟩
   |panic ch=>exact ⟨_,a₁,w₁,hq,.pass (x:=.inLoop c) rfl (fun _ _=>.inl YA) iB⟩
   |outgrown=>exact ⟨_,a₁,w₁,hq,.pass (x:=.inLoop c) rfl (fun _ _=>.inl YA) iB⟩
 obtain ⟨ex,a',w',hq,iB⟩:=key _ x0 a w m rfl (hf.sub hs) hw h0;exact ⟨ex,a',w',hq,.of_steps (.one (fenced_calm hb hr rfl) stepR_loop) iB⟩
theorem QN.round{X:Type}{E:X→Env}{I:X→World→Prop}{μ:X→Nat}{x:X}(x':X)(hs:Sub (E x') e)(hI:I x' m)(aM:μ x'<μ x):
  QN (Exit.then (C6 E I μ n D x) Q) .normal n e D m:=fun _ _ hf hw=>⟨x',m,hf.sub hs,hw,hI,aM⟩
theorem QN.N1{ds:List Deferred}{ro:Option Nat}(h:WP P y Q n e ⟨ds,ro⟩ m):QN (Exit.then (fun a w=>y.wpIn (bJ ro) 0 P Q a w) Q) .normal n e ⟨ds,ro⟩ m:=fun a w hf hw=>h a w hf hw
theorem QN.tr{K:Act→World→Prop}(h:QN Q .ret n e D m):QN (Exit.then K Q) .ret n e D m:=h
theorem QN.tx{K:Act→World→Prop}{id:Nat}(h:QN Q (.exit id) n e D m):QN (Exit.then K Q) (.exit id) n e D m:=h
theorem QN.B1{id:Nat}(h:QN Q .normal n e D m):QN (Exit.inBlock id Q) .normal n e D m:=h
theorem QN.br{id:Nat}(h:QN Q .ret n e D m):QN (Exit.inBlock id Q) .ret n e D m:=h
theorem QN.bx{id:Nat}(h:QN Q .normal n e D m):QN (Exit.inBlock id Q) (.exit id) n e D m:=fun a w hf hw=>by
 simp only [Exit.inBlock,yT];exact h a w hf hw
theorem QN.tW{id id':Nat}(dP:Nat.beq id' id=false)(h:QN Q (.exit id') n e D m):QN (Exit.inBlock id Q) (.exit id') n e D m:=fun a w hf hw=>by
 simp only [Exit.inBlock,zX (show¬id'=id from fun hh=>by subst hh;simp at dP)];exact h a w hf hw
theorem WP.cut{X:Type}(E:X→Env)(I:X→World→Prop)(h1:WP P x (Exit.then (fun a w=>∃x' m',Fits n (E x') D a∧bS m' w∧I x' m') Q) n e D m)
  (h2:∀x' m',I x' m'→WP P y Q n (E x') D m'):WP P (.seq x y) Q n e D m:=by
 intro a w hf hw;refine wpIn_seq (wpIn_mono (h1 a w hf hw) fun ex a' w' hq=>?_);cases ex with
 |normal=>obtain ⟨x',m',NZ,OB,hI⟩:=hq;exact h2 x' m' hI a' w' NZ OB
 |exit id=>exact hq
 |goto l=>exact hq
 |ret=>exact hq
 |panic ch=>exact hq
 |outgrown=>exact hq
theorem QN.ar{X:Type}{E:X→Env}{I:X→World→Prop}(x':X)(hs:Sub (E x') e)(hI:I x' m):
  QN (Exit.then (fun a w=>∃x' m',Fits n (E x') D a∧bS m' w∧I x' m') Q) .normal n e D m:=fun _ _ hf hw=>⟨x',m,hf.sub hs,hw,hI⟩
end
theorem WP.wp{P:Program}{c:Code}{Q:Exit→Act→World→Prop}{n:Nat}{e:Env}{ds:List Deferred}{m:World}(h:WP P c Q n e ⟨ds,none⟩ m)(a:Act)(w:World)(hf:Fits n e ⟨ds,none⟩ a)(hs:bS m w):c.wp P Q a w:=
 wpIn_wide.1 (h a w hf hs)
theorem WP.of_wp{P:Program}{c:Code}{Q:Exit→Act→World→Prop}{n:Nat}{e:Env}{ds:List Deferred}{m:World}(h:∀a w,Fits n e ⟨ds,none⟩ a→bS m w→c.wp P Q a w):WP P c Q n e ⟨ds,none⟩ m:=
 fun a w hf hs=>wpIn_wide.2 (h a w hf hs)
theorem Calls.fr{P:Program}{f:FuncId}{args:Array Value}{w:World}{R:Ending→World→Prop}(D:Fr)(n:Nat)(h:Calls P f args w R):CallsIn (bJ D.ro) n P f args w R:=
 (callsIn_wide (n:=n)).2 h
def dq(P:Program)(f:FuncId):Prop:=∃fn,P.funcs[f]?=some fn∧(fn.name== "runtime.NumGoroutine")=false∧fn.body.isNone=false
def aP(P:Program)(f:FuncId)(args:List Value)(m:World)(post:Ending→World→Prop):Prop:=
 dq P f∧∀w,bS m w→Calls P f args.toArray w fun e w'=>∃m',bS m' w'∧post e m'
def dg(P:Program)(f:FuncId)(args:List Value)(m:World)(post:Value→World→Prop):Prop:=
 aP P f args m fun e m'=>∃v,e=.returned v∧post v m'
theorem aP.mono{P:Program}{f:FuncId}{args:List Value}{m:World}{post post':Ending→World→Prop}(h:aP P f args m post)(hp:∀e m',post e m'→post' e m'):aP P f args m post':=
 ⟨h.1,fun w hs=>(h.2 w hs).mono fun _ _ ⟨m',h1,h2⟩=>⟨m',h1,hp _ _ h2⟩⟩
theorem dg.mono{P:Program}{f:FuncId}{args:List Value}{m:World}{post post':Value→World→Prop}(h:dg P f args m post)(hp:∀v m',post v m'→post' v m'):dg P f args m post':=
 aP.mono h fun _ _ ⟨v,h1,h2⟩=>⟨v,h1,hp _ _ h2⟩
def mb(P:Program)(fn:Func)(post:Ending→World→Prop):Exit→Act→World→Prop:=bodyPost P fn fun e w'=>∃m',bS m' w'∧post e m'
def fL:Nat→List Value→Env
 |_,[]=>[]
 |k,v::r=>(k,v)::fL (k+1) r
theorem kx:∀(l:List Value) (k t:Nat) (v:Value),(fL k l).get t=some v→k≤t∧l[t-k]?=some v
 |[],_,_,_,h=>by cases h
 |u::r,k,t,v,h=>by
  unfold fL Env.get at h
  split at h
  ·rename_i hb;have hb:k=t:=by simpa using hb
   injection h with h
   subst hb;subst h;simp
  ·rename_i hb;have hb:k≠t:=Nat.ne_of_beq_eq_false hb;obtain ⟨h1,h2⟩:=kx r (k+1) t v h;refine ⟨J9,?_⟩;rw [show t-k=(t-(k+1))+1 by omega]
   simpa using h2
theorem aP.enter{P:Program}{f:FuncId}{fn:Func}{c:Code}{args:List Value}{m:World}{post:Ending→World→Prop}(hc:dq P f)
  (hf:P.funcs[f]?=some fn)(hb:fn.body=some c)(hn:Nat.ble args.length fn.ntmps=true)(h:WP P c (mb P fn post) fn.ntmps (fL 0 args) ⟨[],none⟩ m):aP P f args m post:=
 ⟨hc,fun w hs=>calls_of_wp hf hb (WP.wp h _ w ⟨by have:=yU hn;simp;omega,rfl,fun t v ht=>by
  obtain ⟨_,h2⟩:=kx args 0 t v ht;simp only [Nat.sub_zero]at h2;have aM:t<args.length:=(yV.1 h2).1;rw [Array.getElem?_append_left (by simpa using aM)]
  simpa using h2⟩ hs)⟩
theorem aP.zA{P:Program}{f:FuncId}{fn:Func}{c:Code}{args:List Value}{m:World}{post:Ending→World→Prop}(hf:P.funcs[f]?=some fn)(h:WP P c (mb P fn post) fn.ntmps (fL 0 args) ⟨[],none⟩ m)(h1:(fn.name== "runtime.NumGoroutine")=false:=by kernel_rfl)(h2:fn.body.isNone=false:=by kernel_rfl)(hb:fn.body=some c:=by exact rfl)(hn:Nat.ble args.length fn.ntmps=true:=by exact rfl):aP P f args m post:=aP.enter ⟨_,hf,h1,h2⟩ hf hb hn h
theorem QN.GK{P:Program}{fn:Func}{post:Ending→World→Prop}{n:Nat}{e:Env}{m:World}(hr:fn.results=#[])(h:post (.returned (.tuple #[])) m):QN (mb P fn post) .ret n e ⟨[],none⟩ m:=
 fun _ _ hf hs=>⟨hf.defers,.tuple #[],results_none hr _ _ _,m,hs,h⟩
theorem QN.kg{P:Program}{fn:Func}{post:Ending→World→Prop}{n:Nat}{e:Env}{m:World}(hr:fn.results=#[])(h:post (.returned (.tuple #[])) m):QN (mb P fn post) .normal n e ⟨[],none⟩ m:=
 fun _ _ hf hs=>⟨hf.defers,.tuple #[],results_none hr _ _ _,m,hs,h⟩
theorem QN.aj{P:Program}{fn:Func}{post:Ending→World→Prop}{n:Nat}{e:Env}{m:World}{t:Tmp}{v:Value}(hr:fn.results=#[.tmp t])(ht:e.get t=some v)(h:post (.returned v) m):QN (mb P fn post) .ret n e ⟨[],none⟩ m:=
 fun _ _ hf hs=>⟨hf.defers,v,by rw [results_tmp hr,dz (hf.get t v ht)],m,hs,h⟩
theorem QN.dW{P:Program}{fn:Func}{post:Ending→World→Prop}{n:Nat}{e:Env}{m:World}{t u:Tmp}{v v':Value}(hr:fn.results=#[.tmp t,.tmp u])(ht:e.get t=some v)(hu:e.get u=some v')(h:post (.returned (.tuple #[v,v'])) m):QN (mb P fn post) .ret n e ⟨[],none⟩ m:=
 fun _ _ hf hs=>⟨hf.defers,_,by rw [results_tmp2 hr,dz (hf.get t v ht),dz (hf.get u v' hu)],m,hs,h⟩
end Go.Ev
namespace Go.Ids
structure aG where
 c:Nat
 f:Nat
 t:Nat
 deriving DecidableEq
def num(n:Nat):Bool:=decide (1≤n)&&decide (n≤9007199254740991)
def aG.right(x:aG):Bool:=num x.c&&decide (1≤x.f)&&decide (x.f<x.t)&&decide (x.t≤9007199254740992)
theorem bL{x:aG}:x.right=true↔1≤x.c∧x.c≤9007199254740991∧1≤x.f∧x.f<x.t∧x.t≤9007199254740992:=by
 simp [aG.right,num,and_assoc]
def aG.has(x:aG)(c k:Nat):Prop:=x.right=true∧x.c=c∧x.f≤k∧k<x.t
def mem(l:List aG)(c k:Nat):Prop:=∃x∈l,x.has c k
theorem dv{c k:Nat}:¬mem [] c k:=fun⟨_,h,_⟩=>by cases h
theorem mem_cons{x:aG}{l:List aG}{c k:Nat}:mem (x::l) c k↔x.has c k∨mem l c k:=by
 constructor
 ·rintro ⟨y,hy,h⟩;rcases yH.1 hy with rfl|hy
  ·exact .inl h
  ·exact .inr ⟨y,hy,h⟩
 ·rintro (h|⟨y,hy,h⟩)
  ·exact ⟨x,zS ..,h⟩
  ·exact ⟨y,zO _ hy,h⟩
theorem mem_append{a b:List aG}{c k:Nat}:mem (a++b) c k↔mem a c k∨mem b c k:=by
 constructor
 ·rintro ⟨y,hy,h⟩;rcases yL.1 hy with hy|hy
  ·exact .inl ⟨y,hy,h⟩
  ·exact .inr ⟨y,hy,h⟩
 ·rintro (⟨y,hy,h⟩|⟨y,hy,h⟩)
  ·exact ⟨y,yW _ hy,h⟩
  ·exact ⟨y,yX _ hy,h⟩
theorem H5{a b:List aG}(h:a.Perm b){c k:Nat}:mem a c k↔mem b c k:=
 ⟨fun⟨y,hy,hh⟩=>⟨y,h.mem_iff.1 hy,hh⟩,fun⟨y,hy,hh⟩=>⟨y,h.mem_iff.2 hy,hh⟩⟩
theorem mem_filter{l:List aG}{c k:Nat}:mem (l.filter aG.right) c k↔mem l c k:=
 ⟨fun⟨y,hy,hh⟩=>⟨y,(yY.1 hy).1,hh⟩,fun⟨y,hy,hh⟩=>⟨y,yY.2 ⟨hy,hh.1⟩,hh⟩⟩
theorem mem_reverse{l:List aG}{c k:Nat}:mem l.reverse c k↔mem l c k:=
 ⟨fun⟨y,hy,hh⟩=>⟨y,List.mem_reverse.1 hy,hh⟩,fun⟨y,hy,hh⟩=>⟨y,List.mem_reverse.2 hy,hh⟩⟩
def aG.Eo(x y:aG):Prop:=x.c<y.c∨(x.c=y.c∧x.t<y.f)
def Canon(l:List aG):Prop:=(∀x∈l,x.right=true)∧l.Pairwise aG.Eo
theorem Canon.nil:Canon []:=⟨(fun _ h=>by cases h),List.Pairwise.nil⟩
theorem Canon.tail{x:aG}{l:List aG}(h:Canon (x::l)):Canon l:=⟨fun y hy=>h.1 y (zO _ hy),(yZ.1 h.2).2⟩
theorem Canon.head{x:aG}{l:List aG}(h:Canon (x::l)):x.right=true:=h.1 x (zS ..)
theorem Canon.behind{x y:aG}{l:List aG}(h:Canon (x::l))(hy:y∈l):x.Eo y:=(yZ.1 h.2).1 y hy
theorem Canon.jc{x:aG}{l:List aG}(h:Canon (x::l)){c k:Nat}(hm:mem l c k):x.c<c∨(x.c=c∧x.t<k):=by
 obtain ⟨y,hy,hr,rfl,h1,h2⟩:=hm;rcases h.behind hy with h3|⟨h3,h4⟩
 ·exact .inl h3
 ·exact .inr ⟨h3,J9⟩
theorem dA:∀{a b:List aG},Canon a→Canon b→(∀c k,mem a c k↔mem b c k)→a=b
 |[],[],_,_,_=>rfl
 |[],y::b,_,hb,h=>by
  have hr:=bL.1 hb.head;exact absurd ((h y.c y.f).2 ⟨y,zS ..,hb.head,rfl,yP _,J9⟩) dv
 |x::a,[],ha,_,h=>by
  have hr:=bL.1 ha.head;exact absurd ((h x.c x.f).1 ⟨x,zS ..,ha.head,rfl,yP _,J9⟩) dv
 |x::a,y::b,ha,hb,h=>by
  have hx:=bL.1 ha.head;have hy:=bL.1 hb.head;have inx:mem (x::a) x.c x.f:=mem_cons.2 (.inl ⟨ha.head,rfl,yP _,J9⟩);have iny:mem (y::b) y.c y.f:=mem_cons.2 (.inl ⟨hb.head,rfl,yP _,J9⟩);have lb:∀{z:aG} {l:List aG},Canon (z::l)→∀{c k},mem (z::l) c k→z.c<c∨(z.c=c∧z.f≤k):=fun{z l} hc {c k} hm=>by
   rcases mem_cons.1 hm with⟨_,h1,h2,_⟩|hm
   ·exact .inr ⟨h1,h2⟩
   ·have hz:=bL.1 hc.head;rcases hc.jc hm with h1|⟨h1,h2⟩
    ·exact .inl h1
    ·exact .inr ⟨h1,J9⟩
  have h1:=lb hb ((h _ _).1 inx);have h2:=lb ha ((h _ _).2 iny);have hc:x.c=y.c:=by omega
  have hf:x.f=y.f:=by omega
  have out:∀{z:aG} {l:List aG},Canon (z::l)→¬mem (z::l) z.c z.t:=fun{z l} VM hm=>by
   rcases mem_cons.1 hm with⟨_,_,_,h3⟩|hm
   ·omega
   ·rcases VM.jc hm with h3|⟨_,h3⟩<;>omega
  have ht:x.t=y.t:=by
   rcases Nat.lt_trichotomy x.t y.t with h3|h3|h3
   ·exfalso;refine out ha ((h x.c x.t).2 (mem_cons.2 (.inl ⟨hb.head,hc.symm,J9,h3⟩)))
   ·exact h3
   ·exfalso;refine out hb ((h y.c y.t).1 (mem_cons.2 (.inl ⟨ha.head,hc,J9,h3⟩)))
  have OL:x=y:=by cases x;cases y;simp_all
  subst OL;have px:∀c k,mem a c k↔mem b c k:=fun c k=>by
   have h9:=h c k;rw [mem_cons,mem_cons]at h9;constructor
   ·intro hm;rcases h9.1 (.inr hm)with⟨_,h3,h4,h5⟩|h3
    ·rcases ha.jc hm with h6|⟨h6,h7⟩<;>omega
    ·exact h3
   ·intro hm;rcases h9.2 (.inr hm)with⟨_,h3,h4,h5⟩|h3
    ·rcases hb.jc hm with h6|⟨h6,h7⟩<;>omega
    ·exact h3
  rw [dA ha.tail hb.tail px]
def aG.le(x y:aG):Prop:=x.c<y.c∨(x.c=y.c∧x.f≤y.f)
def aG.lt(x y:aG):Bool:=decide (x.c<y.c)||(decide (x.c=y.c)&&decide (x.f<y.f))
def mg:List aG→aG→List aG
 |y::r,x=>if y.c=x.c∧x.f≤y.t then{y with t:=max y.t x.t}::r else x::y::r
 |[],x=>[x]
theorem ig(y:aG)(r:List aG)(x:aG):mg (y::r) x=if y.c=x.c∧x.f≤y.t then{y with t:=max y.t x.t}::r else x::y::r:=rfl
def oM(l:List aG):Prop:=(∀x∈l,x.right=true)∧l.Pairwise fun x y=>aG.Eo y x
theorem KX{r:List aG}{x:aG}(h:oM r)(hx:x.right=true)(hle:∀y r',r=y::r'→y.le x):
  oM (mg r x)∧(∀c k,mem (mg r x) c k↔mem r c k∨x.has c k)∧∀z,x.le z→∀y r',mg r x=y::r'→y.le z:=by
 cases r with
 |nil=>
  refine ⟨⟨fun y hy=>?_,by simp [mg]⟩,fun c k=>?_,fun z hz y r' h=>?_⟩
  ·have:y=x:=by simpa [mg]using hy
   subst this;exact hx
  ·show mem [x] c k↔_;rw [mem_cons];constructor
   ·rintro (h|h)
    ·exact .inr h
    ·exact absurd h dv
   ·rintro (h|h)
    ·exact absurd h dv
    ·exact .inl h
  ·simp [mg]at h;rw [←h.1];exact hz
 |cons y r=>
  have hy:=h.1 y (zS ..);have PR:=bL.1 hy;have PD:=bL.1 hx;have hl:=hle y r rfl;rw [ig]
  by_cases hc:y.c=x.c∧x.f≤y.t
  ·rw [yS hc];have hm:aG.right {y with t:=max y.t x.t}=true:=bL.2 ⟨PR.1,PR.2.1,PR.2.2.1,by simp only;omega,by simp only;omega⟩;have hyf:y.f≤x.f:=by rcases hl with h1|h1<;>omega
   refine ⟨⟨fun z hz=>?_,?_⟩,fun c k=>?_,fun z hz w r' hw=>?_⟩
   ·rcases yH.1 hz with rfl|hz
    ·exact hm
    ·exact h.1 z (zO _ hz)
   ·have:=yZ.1 h.2;exact yZ.2 ⟨fun z hz=>this.1 z hz,this.2⟩
   ·rw [mem_cons,mem_cons];constructor
    ·rintro (⟨_,h1,h2,h3⟩|h1)
     ·simp only at h1 h2 h3
      by_cases hk:k<y.t
      ·exact .inl (.inl ⟨hy,h1,h2,hk⟩)
      ·exact .inr ⟨hx,J9,J9,J9⟩
     ·exact .inl (.inr h1)
    ·rintro ((⟨_,h1,h2,h3⟩|h1)|⟨_,h1,h2,h3⟩)
     ·exact .inl ⟨hm,h1,h2,by simp only;omega⟩
     ·exact .inr h1
     ·exact .inl ⟨hm,by simp only;omega,by simp only;omega,by simp only;omega⟩
   ·simp only [List.cons.injEq]at hw;rw [←hw.1];rcases hl with h1|h1<;>rcases hz with h2|h2<;>simp only [aG.le]<;>omega
  ·rw [zX hc];have hb:y.Eo x:=by
    rcases hl with h1|⟨h1,h2⟩
    ·exact .inl h1
    ·refine .inr ⟨h1,?_⟩;rcases xA y.t x.f with h3|h3
     ·exact h3
     ·exact absurd ⟨h1,h3⟩ hc
   refine ⟨⟨fun z hz=>?_,yZ.2 ⟨fun z hz=>?_,h.2⟩⟩,fun c k=>?_,fun z hz w r' hw=>?_⟩
   ·rcases yH.1 hz with rfl|hz
    ·exact hx
    ·exact h.1 z hz
   ·rcases yH.1 hz with rfl|hz
    ·exact hb
    ·have h3:=(yZ.1 h.2).1 z hz;rcases h3 with h3|⟨h3,h4⟩<;>rcases hb with h5|⟨h5,h6⟩<;>simp only [aG.Eo]<;>omega
   ·rw [mem_cons,or_comm]
   ·simp only [List.cons.injEq]at hw;rw [←hw.1];exact hz
theorem sg:∀(l r:List aG),oM r→(∀x∈l,x.right=true)→l.Pairwise aG.le→(∀y r',r=y::r'→∀x∈l,y.le x)→
  oM (l.foldl mg r)∧∀c k,mem (l.foldl mg r) c k↔mem r c k∨mem l c k
 |[],r,hr,_,_,_=>⟨hr,fun c k=>⟨.inl,fun h=>h.resolve_right dv⟩⟩
 |x::l,r,hr,hl,hp,hle=>by
  have Bb:=yZ.1 hp;obtain ⟨h1,h2,h3⟩:=KX hr (hl x (zS ..)) (fun y r' h=>hle y r' h x (zS ..));obtain ⟨h4,h5⟩:=sg l (mg r x) h1 (fun y hy=>hl y (zO _ hy)) Bb.2 (fun y r' h z hz=>h3 z (Bb.1 z hz) y r' h);refine ⟨h4,fun c k=>?_⟩;show mem (l.foldl mg (mg r x)) c k↔_;rw [h5,h2,mem_cons,or_assoc]
theorem oM.reverse{l:List aG}(h:oM l):Canon l.reverse:=⟨fun x hx=>h.1 x (List.mem_reverse.1 hx),List.pairwise_reverse.2 h.2⟩
def ins(x:aG):List aG→List aG
 |[]=>[x]
 |y::l=>if x.lt y then x::y::l else y::ins x l
def Cx(l:List aG):List aG:=l.foldr ins []
theorem qT(x:aG):∀l,(ins x l).Perm (x::l)
 |[]=>List.Perm.refl _
 |y::l=>by
  unfold ins
  split
  ·exact List.Perm.refl _
  ·exact ((qT x l).cons y).trans (List.Perm.swap x y l)
theorem lt_iff{x y:aG}:x.lt y=true↔x.c<y.c∨(x.c=y.c∧x.f<y.f):=by simp [aG.lt]
theorem le_of_not_lt{x y:aG}(h:¬x.lt y=true):y.le x:=by rw [lt_iff]at h;simp only [aG.le];omega
theorem rp(x:aG):∀l,l.Pairwise aG.le→(ins x l).Pairwise aG.le
 |[],_=>by simp [ins]
 |y::l,h=>by
  have h':=yZ.1 h;unfold ins
  split
  ·rename_i hc;rw [lt_iff]at hc;refine yZ.2 ⟨fun z hz=>?_,h⟩;rcases yH.1 hz with rfl|hz
   ·simp only [aG.le];omega
   ·have:=h'.1 z hz;simp only [aG.le]at this ⊢;omega
  ·rename_i hc;refine yZ.2 ⟨fun z hz=>?_,rp x l h'.2⟩;rcases yH.1 ((qT x l).mem_iff.1 hz)with rfl|hz
   ·exact le_of_not_lt hc
   ·exact h'.1 z hz
theorem jL:∀l,(Cx l).Perm l
 |[]=>List.Perm.refl _
 |x::l=>(qT x _).trans ((jL l).cons x)
theorem jH:∀l,(Cx l).Pairwise aG.le
 |[]=>List.Pairwise.nil
 |x::l=>rp x _ (jH l)
def clean(l:List aG):List aG:=((Cx (l.filter aG.right)).foldl mg []).reverse
theorem merged(l d:List aG)(hp:d.Perm (l.filter aG.right))(hs:d.Pairwise aG.le):Canon (d.foldl mg []).reverse∧∀c k,mem (d.foldl mg []).reverse c k↔mem l c k:=by
 obtain ⟨h1,h2⟩:=sg d [] ⟨(fun _ h=>by cases h),List.Pairwise.nil⟩ (fun x hx=>(yY.1 (hp.mem_iff.1 hx)).2) hs (fun y r' h=>by cases h);refine ⟨h1.reverse,fun c k=>?_⟩;rw [mem_reverse,h2,H5 hp,mem_filter];exact ⟨fun h=>h.resolve_left dv,.inr⟩
theorem dt(l:List aG):Canon (clean l):=(merged l _ (jL _) (jH _)).1
theorem fy(l:List aG)(c k:Nat):mem (clean l) c k↔mem l c k:=(merged l _ (jL _) (jH _)).2 c k
theorem nK(l d:List aG)(hp:d.Perm (l.filter aG.right))(hs:d.Pairwise aG.le):(d.foldl mg []).reverse=clean l:=
 dA (merged l d hp hs).1 (dt l) fun c k=>by rw [(merged l d hp hs).2,fy]
theorem dU{l:List aG}(h:Canon l):clean l=l:=dA (dt _) h fun c k=>fy l c k
theorem M4(r:List aG)(x:aG):(mg r x).length≤r.length+1:=by
 cases r with
 |nil=>simp [mg]
 |cons y r=>rw [ig];split<;>simp
theorem gA:∀(l r:List aG),(l.foldl mg r).length≤r.length+l.length
 |[],r=>by simp
 |x::l,r=>by
  have:=gA l (mg r x);have:=M4 r x;simp only [xB,yF];omega
theorem eM(l:List aG):(clean l).length≤l.length:=by
 unfold clean;rw [xC];have h1:=gA (Cx (l.filter aG.right)) [];have h2:=(jL (l.filter aG.right)).length_eq;have h3:=xD aG.right l;simp only [xE,zU]at h1;omega
theorem pG{x y z:aG}(h:x.lt y=true)(h':y.le z):x.lt z=true:=by
 rw [lt_iff]at*;rcases h' with h'|h'<;>omega
theorem not_lt_of_le{x y z:aG}(h:¬x.lt y=true)(h':z.le y):¬x.lt z=true:=fun hh=>h (pG hh h')
theorem BQ{x:aG}{d:List aG}{k:Nat}(hd:d.Pairwise aG.le)(h1:∀j (h:j<d.length),j<k→¬x.lt d[j]=true)(h2:∀j (h:j<d.length),k≤j→x.lt d[j]=true):(d.take k++x::d.drop k).Pairwise aG.le:=by
 have iE:(d.take k++d.drop k).Pairwise aG.le:=by rw [yG];exact hd
 rw [xF]at iE;obtain ⟨p1,p2,p3⟩:=iE;have f1:∀a∈d.take k,a.le x:=fun a ha=>by
  obtain ⟨j,hj,rfl⟩:=xG.1 ha;rw [xH];have:j<k∧j<d.length:=by rw [yA]at hj;omega
  exact le_of_not_lt (h1 j this.2 this.1)
 have f2:∀a∈d.drop k,x.le a:=fun a ha=>by
  obtain ⟨j,hj,rfl⟩:=xG.1 ha;rw [List.getElem_drop];have x8:k+j<d.length:=by rw [zZ]at hj;omega
  have:=lt_iff.1 (h2 (k+j) x8 J9);simp only [aG.le];omega
 rw [xF];refine ⟨p1,yZ.2 ⟨f2,p2⟩,fun a ha b hb=>?_⟩;rcases yH.1 hb with rfl|hb
 ·exact f1 a ha
 ·exact p3 a ha b hb
theorem Hd(x:aG)(d:List aG)(k:Nat):(d.take k++x::d.drop k).Perm (d++[x]):=by
 refine List.perm_middle.trans ?_;rw [yG];exact (xI (l₁:=[x]) (l₂:=d))
theorem sX{d:List aG}(hd:d.Pairwise aG.le){i j:Nat}(hj:j<d.length)(h:i≤j):(d[i]'(by omega)).le d[j]:=by
 rcases Nat.lt_or_eq_of_le h with h|h
 ·exact xJ.1 hd i j _ _ h
 ·subst h;exact .inr ⟨rfl,yP _⟩
end Go.Ids
namespace Go.Mrg
section
open Go.Sort
variable{α:Type}
def Up(lt:α→α→Bool)(l:List α)(a b:Nat):Prop:=∀i j x y,a≤i→i<j→j<b→l[i]?=some x→l[j]?=some y→lt y x=false
def Rest(lt:α→α→Bool)(B:Nat)(l:List α)(n p0:Nat):Prop:=∀p,p0≤p→Up lt l (p*B) (min (p*B+B) n)
end
end Go.Mrg
