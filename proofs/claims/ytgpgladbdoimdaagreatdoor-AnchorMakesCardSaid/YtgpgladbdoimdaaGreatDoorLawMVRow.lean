/- AnchorMakes: the row and its card. -/
import Derived.Test.YtgpgladbdoimdaaGreatDoorMLawMV50
namespace Go.Proofs.YtgpgladbdoimdaaGreatDoor
open Go.ChangeShapes Go.WideShapes Go.ChangeAt Go.RowKit Go.Ev Go.Ids
set_option maxRecDepth 100000 in
theorem sR(os:Os)(started:os.Started)(H:Type)(enc:TypeId×Value→H):
  ReturnsInHanded {} Tryz.checked os 3 .any (fun w args=>(Rows.anchorMakesSpec.pre enc Tryz.prog Tryz.f3 Rows.anchorMakesRow.domain false w args∧laidMetH Tryz.prog qQ w)∧sizedMet enc Tryz.prog Tryz.f3 (OpenSpec.ofChange Rows.anchorMakesSpec) false w args)
   (Rows.anchorMakesSpec.post enc Tryz.prog Tryz.f3 false true false false):=by
 refine Ez (X:=fun w _=>laidMetH Tryz.prog qQ w) (tb:=4) (fun _ _ _ hh h=>h.of_heap hh) own started J7 Tryz.func3
  (ChangeSpec.witness_shaped (enc:=enc) (C:=Tryz.checked) (os:=os) (X:=fun w _=>laidMetH Tryz.prog qQ w) false (World.laidAll Tryz.prog os qQ) #[.int .i64 0,.slice none 0 0,.int .i64 0,.bool false] 8 (World.laidAll_os _ _ _)
   (World.shaped_of_ZipB J7 J7) J7 J7 J7 (KU os _))
  laidOut J7 rfl (NR 4 rfl rfl) rfl (fun ds h=>by
   match ds,h with
   |[_,_,_,_],_=>exact ⟨rfl,rfl,rfl⟩) ?_
 intro W base args ds p BF hA hw hL;rw [Tryz.params3]at hA BF hw;obtain ⟨v0,v1,v2,v3,d0,d1,d2,d3,p0,p1,p2,p3,rfl,rfl,rfl,h0,h1,h2,h3⟩:=trodAll_four hA;obtain ⟨wi,rfl⟩:=okWide_int (NR 3 rfl rfl) (BF 0 3 v0 rfl rfl);obtain ⟨ls,hl,Oa⟩:=LS (BF 1 22 v1 rfl rfl) (Fit.arg hw 1 rfl rfl) h1;obtain ⟨at_,rfl⟩:=okWide_int (NR 3 rfl rfl) (BF 2 3 v2 rfl rfl);obtain ⟨af,rfl⟩:=okWide_bool (NR 4 rfl rfl) (BF 3 4 v3 rfl rfl);exact bu.law (KG wi v1 ls Oa at_ af) (fun _ _ h=>h.1) _ rfl (fun A hA=>by
  simp only [yH,uT,uU]at hA;rcases hA with rfl|rfl
  ·exact Le hL
  ·exact ⟨hl,J9⟩)
theorem pT:Rows.AnchorMakesSaid:=
 OpenClaim.holds_of_wide 3 Tryz.f3 rfl rfl rfl rfl rfl rfl rfl ⟨rfl,rfl,rfl,rfl,rfl⟩ rfl rfl rfl rfl rfl J7 Tryz.func3 J7
  (xS J7) (by unfold Func.isWrapper;first|(rw [yS (by decide+kernel)];kernel_rfl)|(rw [zX (by decide+kernel)];exact ⟨rfl,rfl⟩))
  (fun os started H enc _=>sR os started H enc)
theorem anchorMakes_holds:Rows.AnchorMakesCardSaid:=
 Claim7.holds_tied_plain_at .later [] [.data,.pinned] true (true, "20b1a235dca22b92c63c2f56b678d5bb6661e36c0aea3822084f9b25bef11931") true
  pT (fun _ h=>by cases h) J7 (fun _ h=>by cases h) anchorMakes_row_tie rfl ⟨rfl,rfl⟩ J7 rfl
  (fun f fn hf VK=>by
   obtain rfl:f=3:=yR ((show Tryz.prog.funcNamed "quire/quirelaw19.AnchorMakes" =some 3 by kernel_rfl).symm.trans hf)|>.symm;obtain rfl:fn=Tryz.f3:=(yR (Tryz.func3.symm.trans VK)).symm;exact ⟨J7,fun j t ht=>by
    rw [Tryz.params3]at ht;have hm:t∈[3,22,3,4]:=by simpa using Array.mem_of_getElem? ht
    have mD:([3,22,3,4].all fun u=>!Tryz.prog.wantsStandIn u)=true:=by kernel_rfl
    exact (show Tryz.prog.wantsStandIn t=false by simpa using wX.1 mD t hm)⟩)
  J7
end Go.Proofs.YtgpgladbdoimdaaGreatDoor
