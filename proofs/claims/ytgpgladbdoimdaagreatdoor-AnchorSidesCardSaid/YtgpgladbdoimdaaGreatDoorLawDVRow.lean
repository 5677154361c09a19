/- AnchorSides: the row and its card. -/
import Derived.Test.YtgpgladbdoimdaaGreatDoorTLawDV
namespace Go.Proofs.YtgpgladbdoimdaaGreatDoor
open Go.ChangeShapes Go.WideShapes Go.ChangeAt Go.RowKit Go.Ev Go.Ids
theorem open_str{P:Program}{W:World}{b0:Nat}{r:Reach}{ty:TypeId}{v:Value}(ht:P.underlying ty=some .string)(h:Value.okWide P W r b0 ty v):∃t:List UInt8,v=.string (str t):=by
 have h1:∃s:ByteArray,v=.string s:=by
  simp only [Value.okWide,ht,Cell.okWide]at h;cases v<;>simp_all [Cell.ok]
 obtain ⟨s,rfl⟩:=h1;exact ⟨s.data.toList,congrArg Value.string (by cases s;simp [str])⟩
set_option maxRecDepth 100000 in
theorem asides_lifted(os:Os)(started:os.Started)(H:Type)(enc:TypeId×Value→H):
  ReturnsInHanded {} Tryz.checked os 7 .any (fun w args=>(Rows.anchorSidesSpec.pre enc Tryz.prog Tryz.f7 Rows.anchorSidesRow.domain false w args∧laidMetH Tryz.prog qQ w)∧sizedMet enc Tryz.prog Tryz.f7 (OpenSpec.ofChange Rows.anchorSidesSpec) false w args)
   (Rows.anchorSidesSpec.post enc Tryz.prog Tryz.f7 false true false false):=by
 refine Ez (X:=fun w _=>laidMetH Tryz.prog qQ w) (tb:=4) (fun _ _ _ hh h=>h.of_heap hh) own started (by kernel_rfl) Tryz.func7
  (ChangeSpec.witness_shaped (enc:=enc) (C:=Tryz.checked) (os:=os) (X:=fun w _=>laidMetH Tryz.prog qQ w) false (World.laidAll Tryz.prog os qQ) #[.int .i64 0,.slice none 0 0,.int .i64 0,.string ⟨#[]⟩] 8 (World.laidAll_os _ _ _)
   (World.shaped_of_ZipB (by kernel_rfl) (by kernel_rfl)) (by kernel_rfl) (by kernel_rfl) (by kernel_rfl) (KU os _))
  laidOut (by kernel_rfl) rfl (NR 4 rfl rfl) rfl (fun ds h=>by
   match ds,h with
   |[_,_,_,_],_=>exact ⟨rfl,rfl,rfl⟩) ?_
 intro W base args ds p BF hA hw hL;rw [Tryz.params7]at hA BF hw;obtain ⟨v0,v1,v2,v3,d0,d1,d2,d3,p0,p1,p2,p3,rfl,rfl,rfl,h0,h1,h2,h3⟩:=trodAll_four hA;obtain ⟨wi,rfl⟩:=okWide_int (NR 3 rfl rfl) (BF 0 3 v0 rfl rfl);obtain ⟨ls,hl,Oa⟩:=LS (BF 1 22 v1 rfl rfl) (Fit.arg hw 1 rfl rfl) h1;obtain ⟨at_,rfl⟩:=okWide_int (NR 3 rfl rfl) (BF 2 3 v2 rfl rfl);obtain ⟨t,rfl⟩:=open_str (NR 9 rfl rfl) (BF 3 9 v3 rfl rfl);exact bu.law (sides_s wi v1 ls Oa at_ t) (fun _ _ h=>h.1) _ rfl (fun A hA=>by
  simp only [List.mem_cons,List.not_mem_nil,or_false]at hA;rcases hA with rfl|rfl
  ·exact Le hL
  ·exact ⟨hl,by omega⟩)
theorem anchorSides_row:Rows.AnchorSidesSaid:=
 OpenClaim.holds_of_wide 7 Tryz.f7 rfl rfl rfl rfl rfl rfl rfl ⟨rfl,rfl,rfl,rfl,rfl⟩ rfl rfl rfl rfl rfl (by kernel_rfl) Tryz.func7 (by kernel_rfl)
  (of_decide_eq_true (by kernel_rfl)) (by unfold Func.isWrapper;first|(rw [if_pos (by decide+kernel)];kernel_rfl)|(rw [if_neg (by decide+kernel)];exact ⟨rfl,rfl⟩))
  (fun os started H enc _=>asides_lifted os started H enc)
theorem anchorSides_holds:Rows.AnchorSidesCardSaid:=
 Claim7.holds_tied_plain_at .later [] [.data,.pinned] true (true, "20b1a235dca22b92c63c2f56b678d5bb6661e36c0aea3822084f9b25bef11931") true
  anchorSides_row (fun _ h=>by cases h) (by kernel_rfl) (fun _ h=>by cases h) anchorSides_row_tie rfl ⟨rfl,rfl⟩ (by kernel_rfl) rfl
  (fun f fn hf VK=>by
   obtain rfl:f=7:=Option.some.inj ((show Tryz.prog.funcNamed "quire/quirelaw19.AnchorSides" =some 7 by kernel_rfl).symm.trans hf)|>.symm;obtain rfl:fn=Tryz.f7:=(Option.some.inj (Tryz.func7.symm.trans VK)).symm;exact ⟨by kernel_rfl,fun j t ht=>by
    rw [Tryz.params7]at ht;have hm:t∈[3,22,3,9]:=by simpa using Array.mem_of_getElem? ht
    have mD:([3,22,3,9].all fun u=>!Tryz.prog.wantsStandIn u)=true:=by kernel_rfl
    exact (show Tryz.prog.wantsStandIn t=false by simpa using List.all_eq_true.1 mD t hm)⟩)
  (by kernel_rfl)
end Go.Proofs.YtgpgladbdoimdaaGreatDoor
