/- For every list of numbers the Go function fleettop.TopCampaignsReach returns true and leaves its argument as it was, where the tables of unicode and utf8 are laid as its row tells (the given statement Rows.TopCampaignsReachCardSaid); no condition. -/
import Derived.Test.YtipbfaojbmendaaGreatDoorTcrFrameB
namespace Go.Proofs.YtipbfaojbmendaaGreatDoor.topCampaignsReach
open Go.ChangeShapes Go.WideShapes Go.ChangeAt Go.RowKit
open Go.ChangeMaps (open_string shut_string)
set_option linter.unusedVariables false
theorem kl:true=Tryz.prog.looks []:=by kernel_rfl
theorem kw:Rows.topCampaignsReachRow.wfByText (OpenSpec.ofChange Rows.topCampaignsReachSpec)=true:=by kernel_rfl
theorem km:Tryz.pinned.checked.prog.mainIs=some ((true,"95bedefd35c31b367e8de980f087b2effd3812914838798f102c9215045bea40").1,(true,"95bedefd35c31b367e8de980f087b2effd3812914838798f102c9215045bea40").2.toList):=by kernel_rfl
theorem kg:false=Rows.topCampaignsReachRow.goesBy Tryz.pinned.checked.prog:=by kernel_rfl
theorem kn:Tryz.prog.funcNamed Rows.topCampaignsReachRow.func=some 3:=by kernel_rfl
theorem ka:([22].all fun u=>!Tryz.prog.wantsStandIn u)=true:=by kernel_rfl
theorem card:Rows.TopCampaignsReachCardSaid:=
 Claim7.holds_tied_plain_at .later [] [.data,.data,.data,.data,.sentinel,.sentinel,.pinned] true (true,"95bedefd35c31b367e8de980f087b2effd3812914838798f102c9215045bea40") true
  over (fun _ h=>by cases h) kw (fun _ h=>by cases h) topCampaignsReach_row_tie rfl ⟨rfl,rfl⟩ km rfl
  (fun f fn hf P0=>by
   obtain rfl:f=3:=Option.some.inj (kn.symm.trans hf)|>.symm
   obtain rfl:fn=Tryz.f3:=(Option.some.inj (Tryz.func3.symm.trans P0)).symm
   exact ⟨kl,fun j t ht=>by
    rw [Tryz.params3] at ht
    have hm:t∈[22]:=by simpa using Array.mem_of_getElem? ht
    exact (show Tryz.prog.wantsStandIn t=false by simpa using List.all_eq_true.1 ka t hm)⟩)
  kg
end Go.Proofs.YtipbfaojbmendaaGreatDoor.topCampaignsReach
