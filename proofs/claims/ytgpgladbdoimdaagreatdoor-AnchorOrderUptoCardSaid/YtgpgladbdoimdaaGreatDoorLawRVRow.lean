/- AnchorOrder: the row and its card. -/
import Derived.Test.YtgpgladbdoimdaaGreatDoorTLawRV
namespace Go.Proofs.YtgpgladbdoimdaaGreatDoor
open Go.ChangeShapes Go.WideShapes Go.ChangeAt Go.RowKit Go.Ev Go.Ids
theorem trodAll_six{H:Type}{enc:TypeId×Value→H}{P:Program}{w:World}{base:Nat}{spare:Nat→Bool}{held:Bool}{t t1 t2 t3 t4 t5:TypeId}{args:Array Value}{ds:List (DataW H)}{ps:List MemPlace}(h:DataW.TrodAll enc P w base spare held [t,t1,t2,t3,t4,t5] args.toList ds ps):
  ∃v v1 v2 v3 v4 v5 d d1 d2 d3 d4 d5 p p1 p2 p3 p4 p5,args=#[v,v1,v2,v3,v4,v5]∧ds=[d,d1,d2,d3,d4,d5]∧ps=p++p1++p2++p3++p4++p5∧DataW.Trod enc P w base spare held t v d p∧DataW.Trod enc P w base spare held t1 v1 d1 p1∧DataW.Trod enc P w base spare held t2 v2 d2 p2∧DataW.Trod enc P w base spare held t3 v3 d3 p3∧DataW.Trod enc P w base spare held t4 v4 d4 p4∧DataW.Trod enc P w base spare held t5 v5 d5 p5:=by
 obtain ⟨v,u0,d,e0,p,q0,tO,rfl,rfl,hd,g0⟩:=trodAll_cons h;obtain ⟨v1,u1,d1,e1,p1,q1,rfl,rfl,rfl,MN,g1⟩:=trodAll_cons g0;obtain ⟨v2,u2,d2,e2,p2,q2,rfl,rfl,rfl,Mf,g2⟩:=trodAll_cons g1;obtain ⟨v3,u3,d3,e3,p3,q3,rfl,rfl,rfl,IK,g3⟩:=trodAll_cons g2;obtain ⟨v4,u4,d4,e4,p4,q4,rfl,rfl,rfl,Z4,g4⟩:=trodAll_cons g3;obtain ⟨v5,u5,d5,e5,p5,q5,rfl,rfl,rfl,hd5,g5⟩:=trodAll_cons g4;obtain ⟨rfl,rfl,rfl⟩:=trodAll_nil g5;exact ⟨v,v1,v2,v3,v4,v5,d,d1,d2,d3,d4,d5,p,p1,p2,p3,p4,p5,by cases args;simp_all,rfl,by simp,hd,MN,Mf,IK,Z4,hd5⟩
theorem bulk_mem{H:Type}:∀{el:List (DataW H)} {d:DataW H},d∈el→Rows.uptoBulk d≤Rows.uptoBulkAll el
 |x::el,d,h=>by
  unfold Rows.uptoBulkAll;rcases List.mem_cons.1 h with rfl|h
  ·exact Nat.le_add_right ..
  ·exact Nat.le_trans (bulk_mem h) (Nat.le_add_left ..)
set_option maxRecDepth 100000 in
theorem open_txs{H:Type}{enc:TypeId×Value→H}{W:World}{b0:Nat}{r:Reach}{v:Value}{d:DataW H}{ps:List MemPlace}
  (cP:Value.okWide Tryz.prog W r b0 61 v)(hb:Rows.uptoBulk d≤1048576)(h:DataW.Trod enc Tryz.prog W 0 (fun _=>true) true 61 v d ps):∃l:List (List UInt8),Sl W [] 1 v (l.flatMap sC)∧∀t∈l,t.length<1000000000:=by
 obtain ⟨fuel,h⟩:=h;obtain ⟨u,l,x9,hS,hl⟩:=open_slQ (Q:=fun d=>Rows.uptoBulk d≤1048576) sC (fun t=>t.length<1000000000) (NR 61 rfl rfl) (cellsOf 9 rfl rfl) (fun el rest d' hd hm=>by
  rw [show d=.slice el rest from hd]at hb;unfold Rows.uptoBulk at hb;have:=bulk_mem hm;omega) (fun cs n y _ hy hQ=>by
  obtain ⟨s,rfl,hx,_⟩:=DataW.trod_string (NR 9 rfl rfl) hy;refine ⟨s.data.toList,congrArg (fun z=>[Value.string z]) (by cases s;simp [str]),?_⟩;rw [hx]at hQ;simp only [Rows.uptoBulk]at hQ;omega) h
 have:=o3 x9 (okWide_slice (NR 61 rfl rfl) cP);subst this;exact ⟨l,hS,hl⟩
set_option maxRecDepth 100000 in
theorem aorder_lifted(os:Os)(started:os.Started)(H:Type)(enc:TypeId×Value→H):
  ReturnsInHanded {} Tryz.checked os 6 .any (fun w args=>((Rows.OpenSpec.upto Rows.anchorOrderSpec).pre enc Tryz.prog Tryz.f6 Rows.anchorOrderUptoRow.domain false w args∧laidMetH Tryz.prog qQ w)∧sizedMet enc Tryz.prog Tryz.f6 (Rows.OpenSpec.upto Rows.anchorOrderSpec) false w args)
   (Rows.anchorOrderSpec.post enc Tryz.prog Tryz.f6 false true false false):=by
 refine law_liftU (S:=Rows.OpenSpec.upto Rows.anchorOrderSpec) (k:=Rows.uptoSmall) rfl rfl (X:=fun w _=>laidMetH Tryz.prog qQ w) (tb:=4) (fun _ _ _ hh h=>h.of_heap hh) own started (by kernel_rfl) Tryz.func6
  (witness_shapedU (S:=Rows.OpenSpec.upto Rows.anchorOrderSpec) (k:=Rows.uptoSmall) rfl (enc:=enc) (C:=Tryz.checked) (os:=os) (X:=fun w _=>laidMetH Tryz.prog qQ w) false (World.laidAll Tryz.prog os qQ) #[.int .i64 0,.slice none 0 0,.int .i64 0,.int .i64 0,.bool false,.slice none 0 0] 8 (World.laidAll_os _ _ _)
   (World.shaped_of_ZipB (by kernel_rfl) (by kernel_rfl)) (by kernel_rfl) (x:=([.lit (.int .i64 0),.nil,.lit (.int .i64 0),.lit (.int .i64 0),.lit (.bool false),.nil],[],[])) (by kernel_rfl) (by kernel_rfl) (by kernel_rfl) (by kernel_rfl) (KU os _))
  laidOut (by kernel_rfl) rfl (NR 4 rfl rfl) rfl rfl (fun ds h=>by
   match ds,h with
   |[_,_,_,_,_,_],_=>exact ⟨rfl,rfl,rfl⟩) ?_
 intro W base args ds p BF hA hw hL hk;rw [Tryz.params6]at hA BF hw;obtain ⟨v0,v1,v2,v3,v4,v5,d0,d1,d2,d3,d4,d5,p0,p1,p2,p3,p4,p5,rfl,rfl,rfl,h0,h1,h2,h3,h4,h5⟩:=trodAll_six hA;have hb:Rows.uptoBulk d5≤1048576:=Nat.le_trans (bulk_mem (el:=[d0,d1,d2,d3,d4,d5]) (by simp)) (of_decide_eq_true hk);obtain ⟨wi,rfl⟩:=okWide_int (NR 3 rfl rfl) (BF 0 3 v0 rfl rfl);obtain ⟨ls,hl,Oa⟩:=LS (BF 1 22 v1 rfl rfl) (Fit.arg hw 1 rfl rfl) h1;obtain ⟨a0,rfl⟩:=okWide_int (NR 3 rfl rfl) (BF 2 3 v2 rfl rfl);obtain ⟨b0,rfl⟩:=okWide_int (NR 3 rfl rfl) (BF 3 3 v3 rfl rfl);obtain ⟨af,rfl⟩:=okWide_bool (NR 4 rfl rfl) (BF 4 4 v4 rfl rfl);obtain ⟨tx,ht,mJ⟩:=open_txs (BF 5 61 v5 rfl rfl) hb h5;exact bu.law (order_s wi v1 ls Oa a0 b0 af v5 tx mJ) (fun _ _ h=>h.1) _ rfl (fun A hA=>by
  simp only [List.mem_cons,List.not_mem_nil,or_false]at hA;rcases hA with rfl|rfl|rfl
  ·exact Le hL
  ·exact ⟨hl,by omega⟩
  ·exact ⟨ht,by omega⟩)
theorem anchorOrderUpto_row:Rows.AnchorOrderUptoSaid:=
 OpenClaim.holds_of_cond 6 Tryz.f6 rfl rfl rfl rfl rfl rfl rfl ⟨rfl,rfl,rfl,rfl,rfl⟩ rfl rfl rfl rfl rfl (by kernel_rfl) Tryz.func6 (by kernel_rfl)
  (of_decide_eq_true (by kernel_rfl)) (by unfold Func.isWrapper;first|(rw [if_pos (by decide+kernel)];kernel_rfl)|(rw [if_neg (by decide+kernel)];exact ⟨rfl,rfl⟩))
  (fun os started H enc _ _=>aorder_lifted os started H enc)
theorem anchorOrderUpto_holds:Rows.AnchorOrderUptoCardSaid:=
 Claim7.holds_tied_plain_at .later [] [.data,.pinned] true (true, "20b1a235dca22b92c63c2f56b678d5bb6661e36c0aea3822084f9b25bef11931") true
  anchorOrderUpto_row (fun _ h=>by cases h) (by kernel_rfl) (fun _ h=>by cases h) anchorOrderUpto_row_tie rfl ⟨rfl,rfl⟩ (by kernel_rfl) rfl
  (fun f fn hf VK=>by
   obtain rfl:f=6:=Option.some.inj ((show Tryz.prog.funcNamed "quire/quirelaw19.AnchorOrder" =some 6 by kernel_rfl).symm.trans hf)|>.symm;obtain rfl:fn=Tryz.f6:=(Option.some.inj (Tryz.func6.symm.trans VK)).symm;exact ⟨by kernel_rfl,fun j t ht=>by
    rw [Tryz.params6]at ht;have hm:t∈[3,22,3,3,4,61]:=by simpa using Array.mem_of_getElem? ht
    have mD:([3,22,3,3,4,61].all fun u=>!Tryz.prog.wantsStandIn u)=true:=by kernel_rfl
    exact (show Tryz.prog.wantsStandIn t=false by simpa using List.all_eq_true.1 mD t hm)⟩)
  (by kernel_rfl)
end Go.Proofs.YtgpgladbdoimdaaGreatDoor
