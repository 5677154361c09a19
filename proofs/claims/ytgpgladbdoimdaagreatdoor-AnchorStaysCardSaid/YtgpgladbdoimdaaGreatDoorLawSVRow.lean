/- AnchorStays: the row and its card. -/
import Derived.Test.YtgpgladbdoimdaaGreatDoorTLawSV
namespace Go.Proofs.YtgpgladbdoimdaaGreatDoor
open Go.ChangeShapes Go.WideShapes Go.ChangeAt Go.RowKit Go.Ev Go.Ids
theorem trodAll_five{H:Type}{enc:TypeId×Value→H}{P:Program}{w:World}{base:Nat}{spare:Nat→Bool}{held:Bool}{t t1 t2 t3 t4:TypeId}{args:Array Value}{ds:List (DataW H)}{ps:List MemPlace}(h:DataW.TrodAll enc P w base spare held [t,t1,t2,t3,t4] args.toList ds ps):
  ∃v v1 v2 v3 v4 d d1 d2 d3 d4 p p1 p2 p3 p4,args=#[v,v1,v2,v3,v4]∧ds=[d,d1,d2,d3,d4]∧ps=p++p1++p2++p3++p4∧DataW.Trod enc P w base spare held t v d p∧DataW.Trod enc P w base spare held t1 v1 d1 p1∧DataW.Trod enc P w base spare held t2 v2 d2 p2∧DataW.Trod enc P w base spare held t3 v3 d3 p3∧DataW.Trod enc P w base spare held t4 v4 d4 p4:=by
 obtain ⟨v,vs,d,ds',p,q,tO,rfl,rfl,hd,hrest⟩:=trodAll_cons h;obtain ⟨v',vs',d',ds'',p',q',rfl,rfl,rfl,ug,hrest'⟩:=trodAll_cons hrest;obtain ⟨v'',vs'',d'',ds''',p'',q'',rfl,rfl,rfl,hd'',hrest''⟩:=trodAll_cons hrest';obtain ⟨v3,vs3,d3,ds3,p3,q3,rfl,rfl,rfl,IK,hrest3⟩:=trodAll_cons hrest'';obtain ⟨v4,vs4,d4,ds4,p4,q4,rfl,rfl,rfl,Z4,hrest4⟩:=trodAll_cons hrest3;obtain ⟨rfl,rfl,rfl⟩:=trodAll_nil hrest4;exact ⟨v,v',v'',v3,v4,d,d',d'',d3,d4,p,p',p'',p3,p4,by cases args;simp_all,rfl,by simp,hd,ug,hd'',IK,Z4⟩
set_option maxRecDepth 100000 in
theorem astays_lifted(os:Os)(started:os.Started)(H:Type)(enc:TypeId×Value→H):
  ReturnsInHanded {} Tryz.checked os 5 .any (fun w args=>(Rows.anchorStaysSpec.pre enc Tryz.prog Tryz.f5 Rows.anchorStaysRow.domain false w args∧laidMetH Tryz.prog qQ w)∧sizedMet enc Tryz.prog Tryz.f5 (OpenSpec.ofChange Rows.anchorStaysSpec) false w args)
   (Rows.anchorStaysSpec.post enc Tryz.prog Tryz.f5 false true false false):=by
 refine Ez (X:=fun w _=>laidMetH Tryz.prog qQ w) (tb:=4) (fun _ _ _ hh h=>h.of_heap hh) own started (by kernel_rfl) Tryz.func5
  (ChangeSpec.witness_shaped (enc:=enc) (C:=Tryz.checked) (os:=os) (X:=fun w _=>laidMetH Tryz.prog qQ w) false (World.laidAll Tryz.prog os qQ) #[.int .i64 0,.slice none 0 0,.int .i64 0,.bool false,.slice none 0 0] 8 (World.laidAll_os _ _ _)
   (World.shaped_of_ZipB (by kernel_rfl) (by kernel_rfl)) (by kernel_rfl) (by kernel_rfl) (by kernel_rfl) (KU os _))
  laidOut (by kernel_rfl) rfl (NR 4 rfl rfl) rfl (fun ds h=>by
   match ds,h with
   |[_,_,_,_,_],_=>exact ⟨rfl,rfl,rfl⟩) ?_
 intro W base args ds p BF hA hw hL;rw [Tryz.params5]at hA BF hw;obtain ⟨v0,v1,v2,v3,v4,d0,d1,d2,d3,d4,p0,p1,p2,p3,p4,rfl,rfl,rfl,h0,h1,h2,h3,h4⟩:=trodAll_five hA;obtain ⟨wi,rfl⟩:=okWide_int (NR 3 rfl rfl) (BF 0 3 v0 rfl rfl);obtain ⟨ls,hl,Oa⟩:=LS (BF 1 22 v1 rfl rfl) (Fit.arg hw 1 rfl rfl) h1;obtain ⟨at_,rfl⟩:=okWide_int (NR 3 rfl rfl) (BF 2 3 v2 rfl rfl);obtain ⟨af,rfl⟩:=okWide_bool (NR 4 rfl rfl) (BF 3 4 v3 rfl rfl);obtain ⟨ms,hm,h33⟩:=LS (BF 4 22 v4 rfl rfl) (Fit.arg hw 4 rfl rfl) h4;exact bu.law (stays_s wi v1 ls Oa at_ af v4 ms h33) (fun _ _ h=>h.1) _ rfl (fun A hA=>by
  simp only [List.mem_cons,List.not_mem_nil,or_false]at hA;rcases hA with rfl|rfl|rfl
  ·exact Le hL
  ·exact ⟨hl,by omega⟩
  ·exact ⟨hm,by omega⟩)
theorem anchorStays_row:Rows.AnchorStaysSaid:=
 OpenClaim.holds_of_wide 5 Tryz.f5 rfl rfl rfl rfl rfl rfl rfl ⟨rfl,rfl,rfl,rfl,rfl⟩ rfl rfl rfl rfl rfl (by kernel_rfl) Tryz.func5 (by kernel_rfl)
  (of_decide_eq_true (by kernel_rfl)) (by unfold Func.isWrapper;first|(rw [if_pos (by decide+kernel)];kernel_rfl)|(rw [if_neg (by decide+kernel)];exact ⟨rfl,rfl⟩))
  (fun os started H enc _=>astays_lifted os started H enc)
theorem anchorStays_holds:Rows.AnchorStaysCardSaid:=
 Claim7.holds_tied_plain_at .later [] [.data,.pinned] true (true, "20b1a235dca22b92c63c2f56b678d5bb6661e36c0aea3822084f9b25bef11931") true
  anchorStays_row (fun _ h=>by cases h) (by kernel_rfl) (fun _ h=>by cases h) anchorStays_row_tie rfl ⟨rfl,rfl⟩ (by kernel_rfl) rfl
  (fun f fn hf VK=>by
   obtain rfl:f=5:=Option.some.inj ((show Tryz.prog.funcNamed "quire/quirelaw19.AnchorStays" =some 5 by kernel_rfl).symm.trans hf)|>.symm;obtain rfl:fn=Tryz.f5:=(Option.some.inj (Tryz.func5.symm.trans VK)).symm;exact ⟨by kernel_rfl,fun j t ht=>by
    rw [Tryz.params5]at ht;have hm:t∈[3,22,3,4,22]:=by simpa using Array.mem_of_getElem? ht
    have mD:([3,22,3,4,22].all fun u=>!Tryz.prog.wantsStandIn u)=true:=by kernel_rfl
    exact (show Tryz.prog.wantsStandIn t=false by simpa using List.all_eq_true.1 mD t hm)⟩)
  (by kernel_rfl)
end Go.Proofs.YtgpgladbdoimdaaGreatDoor
