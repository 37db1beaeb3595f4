/- For every list of numbers the Go function fleetlaw2.CampaignsPlayed returns true and leaves its argument as it was, where the tables of unicode and utf8 are laid as its row tells (the given statement Rows.CampaignsPlayedCardSaid); no condition. -/
import Derived.Test.YthfphcbipahkmaaGreatDoorCpyFrameB
namespace Go.Proofs.YthfphcbipahkmaaGreatDoor.campaignsPlayed
open Go.ChangeShapes Go.WideShapes Go.ChangeAt Go.RowKit
open Go.ChangeMaps (open_string shut_string)
set_option linter.unusedVariables false
theorem kl:true=Tryz.prog.looks []:=by kernel_rfl
theorem kw:Rows.campaignsPlayedRow.wfByText (OpenSpec.ofChange Rows.campaignsPlayedSpec)=true:=by kernel_rfl
theorem km:Tryz.pinned.checked.prog.mainIs=some ((true,"8e8ea8536a3e14b99e80ea8c97f0b5e879897e7df9eab39aa1ae298b599112fe").1,(true,"8e8ea8536a3e14b99e80ea8c97f0b5e879897e7df9eab39aa1ae298b599112fe").2.toList):=by kernel_rfl
theorem kg:false=Rows.campaignsPlayedRow.goesBy Tryz.pinned.checked.prog:=by kernel_rfl
theorem kn:Tryz.prog.funcNamed Rows.campaignsPlayedRow.func=some 4:=by kernel_rfl
theorem ka:([22].all fun u=>!Tryz.prog.wantsStandIn u)=true:=by kernel_rfl
theorem card:Rows.CampaignsPlayedCardSaid:=
 Claim7.holds_tied_plain_at .later [] [.data,.data,.data,.data,.sentinel,.sentinel,.pinned] true (true,"8e8ea8536a3e14b99e80ea8c97f0b5e879897e7df9eab39aa1ae298b599112fe") true
  over (fun _ h=>by cases h) kw (fun _ h=>by cases h) campaignsPlayed_row_tie rfl ⟨rfl,rfl⟩ km rfl
  (fun f fn hf Sd=>by
   obtain rfl:f=4:=Option.some.inj (kn.symm.trans hf)|>.symm
   obtain rfl:fn=Tryz.f4:=(Option.some.inj (Tryz.func4.symm.trans Sd)).symm
   exact ⟨kl,fun j t ht=>by
    rw [Tryz.params4] at ht
    have hm:t∈[22]:=by simpa using Array.mem_of_getElem? ht
    exact (show Tryz.prog.wantsStandIn t=false by simpa using List.all_eq_true.1 ka t hm)⟩)
  kg
end Go.Proofs.YthfphcbipahkmaaGreatDoor.campaignsPlayed
