/- AnchorPlaces: the row and its card. -/
import Derived.Test.YtgpgladbdoimdaaGreatDoorTLawPV
namespace Go.Proofs.YtgpgladbdoimdaaGreatDoor
open Go.ChangeShapes Go.WideShapes Go.ChangeAt Go.RowKit Go.Ev Go.Ids
set_option maxRecDepth 100000 in
theorem aplaces_lifted(os:Os)(started:os.Started)(H:Type)(enc:TypeId×Value→H):
  ReturnsInHanded {} Tryz.checked os 4 .any (fun w args=>(Rows.anchorPlacesSpec.pre enc Tryz.prog Tryz.f4 Rows.anchorPlacesRow.domain false w args∧laidMetH Tryz.prog qQ w)∧sizedMet enc Tryz.prog Tryz.f4 (OpenSpec.ofChange Rows.anchorPlacesSpec) false w args)
   (Rows.anchorPlacesSpec.post enc Tryz.prog Tryz.f4 false true false false):=by
 refine Ez (X:=fun w _=>laidMetH Tryz.prog qQ w) (tb:=4) (fun _ _ _ hh h=>h.of_heap hh) own started (by kernel_rfl) Tryz.func4
  (ChangeSpec.witness_shaped (enc:=enc) (C:=Tryz.checked) (os:=os) (X:=fun w _=>laidMetH Tryz.prog qQ w) false (World.laidAll Tryz.prog os qQ) #[.int .i64 0,.slice none 0 0,.agg #[.int .u64 0,.int .u64 0,.bool false],.int .i64 0] 8 (World.laidAll_os _ _ _)
   (World.shaped_of_ZipB (by kernel_rfl) (by kernel_rfl)) (by kernel_rfl) (by kernel_rfl) (by kernel_rfl) (KU os _))
  laidOut (by kernel_rfl) rfl (NR 4 rfl rfl) rfl (fun ds h=>by
   match ds,h with
   |[_,_,_,_],_=>exact ⟨rfl,rfl,rfl⟩) ?_
 intro W base args ds p BF hA hw hL;rw [Tryz.params4]at hA BF hw;obtain ⟨v0,v1,v2,v3,d0,d1,d2,d3,p0,p1,p2,p3,rfl,rfl,rfl,h0,h1,h2,h3⟩:=trodAll_four hA;obtain ⟨wi,rfl⟩:=okWide_int (NR 3 rfl rfl) (BF 0 3 v0 rfl rfl);obtain ⟨ls,hl,Oa⟩:=LS (BF 1 22 v1 rfl rfl) (Fit.arg hw 1 rfl rfl) h1;obtain ⟨a,rfl,_,_⟩:=open_anc h2;obtain ⟨wh,rfl⟩:=okWide_int (NR 3 rfl rfl) (BF 3 3 v3 rfl rfl);exact bu.law (places_s wi v1 ls Oa a wh) (fun _ _ h=>h.1) _ rfl (fun A hA=>by
  simp only [List.mem_cons,List.not_mem_nil,or_false]at hA;rcases hA with rfl|rfl
  ·exact Le hL
  ·exact ⟨hl,by omega⟩)
theorem anchorPlaces_row:Rows.AnchorPlacesSaid:=
 OpenClaim.holds_of_wide 4 Tryz.f4 rfl rfl rfl rfl rfl rfl rfl ⟨rfl,rfl,rfl,rfl,rfl⟩ rfl rfl rfl rfl rfl (by kernel_rfl) Tryz.func4 (by kernel_rfl)
  (of_decide_eq_true (by kernel_rfl)) (by unfold Func.isWrapper;first|(rw [if_pos (by decide+kernel)];kernel_rfl)|(rw [if_neg (by decide+kernel)];exact ⟨rfl,rfl⟩))
  (fun os started H enc _=>aplaces_lifted os started H enc)
theorem anchorPlaces_holds:Rows.AnchorPlacesCardSaid:=
 Claim7.holds_tied_plain_at .later [] [.data,.pinned] true (true, "20b1a235dca22b92c63c2f56b678d5bb6661e36c0aea3822084f9b25bef11931") true
  anchorPlaces_row (fun _ h=>by cases h) (by kernel_rfl) (fun _ h=>by cases h) anchorPlaces_row_tie rfl ⟨rfl,rfl⟩ (by kernel_rfl) rfl
  (fun f fn hf VK=>by
   obtain rfl:f=4:=Option.some.inj ((show Tryz.prog.funcNamed "quire/quirelaw19.AnchorPlaces" =some 4 by kernel_rfl).symm.trans hf)|>.symm;obtain rfl:fn=Tryz.f4:=(Option.some.inj (Tryz.func4.symm.trans VK)).symm;exact ⟨by kernel_rfl,fun j t ht=>by
    rw [Tryz.params4]at ht;have hm:t∈[3,22,32,3]:=by simpa using Array.mem_of_getElem? ht
    have mD:([3,22,32,3].all fun u=>!Tryz.prog.wantsStandIn u)=true:=by kernel_rfl
    exact (show Tryz.prog.wantsStandIn t=false by simpa using List.all_eq_true.1 mD t hm)⟩)
  (by kernel_rfl)
end Go.Proofs.YtgpgladbdoimdaaGreatDoor
