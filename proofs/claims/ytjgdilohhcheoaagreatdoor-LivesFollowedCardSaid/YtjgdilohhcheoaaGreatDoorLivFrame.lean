/- For every list of numbers the Go function fleetlaw1.LivesFollowed returns true and leaves its argument as it was, where the tables of unicode and utf8 are laid as its row tells (the given statement Rows.LivesFollowedCardSaid); no condition. -/
import Derived.Test.YtjgdilohhcheoaaGreatDoorLivFrameB
namespace Go.Proofs.YtjgdilohhcheoaaGreatDoor.livesFollowed
open Go.ChangeShapes Go.WideShapes Go.ChangeAt Go.RowKit
open Go.ChangeMaps (open_string shut_string)
set_option linter.unusedVariables false
theorem kl:false=Tryz.prog.looks []:=by kernel_rfl
theorem kw:Rows.livesFollowedRow.wfByText (OpenSpec.ofChange Rows.livesFollowedSpec)=true:=by kernel_rfl
theorem km:Tryz.pinned.checked.prog.mainIs=some ((true,"5d3043f22d73b3e071fa6e9e2f81bbaa783b544109df3abd5a1ef40d0e80f97d").1,(true,"5d3043f22d73b3e071fa6e9e2f81bbaa783b544109df3abd5a1ef40d0e80f97d").2.toList):=by kernel_rfl
theorem kg:false=Rows.livesFollowedRow.goesBy Tryz.pinned.checked.prog:=by kernel_rfl
theorem kn:Tryz.prog.funcNamed Rows.livesFollowedRow.func=some 4:=by kernel_rfl
theorem ka:([22].all fun u=>!Tryz.prog.wantsStandIn u)=true:=by kernel_rfl
theorem card:Rows.LivesFollowedCardSaid:=
 Claim7.holds_tied_plain_at .later [] [.data,.data,.data,.data,.pinned,.pinned] true (true,"5d3043f22d73b3e071fa6e9e2f81bbaa783b544109df3abd5a1ef40d0e80f97d") false
  over (fun _ h=>by cases h) kw (fun _ h=>by cases h) livesFollowed_row_tie rfl ⟨rfl,rfl⟩ km rfl
  (fun f fn hf LS=>by
   obtain rfl:f=4:=Option.some.inj (kn.symm.trans hf)|>.symm
   obtain rfl:fn=Tryz.f4:=(Option.some.inj (Tryz.func4.symm.trans LS)).symm
   exact ⟨kl,fun j t ht=>by
    rw [Tryz.params4] at ht
    have hm:t∈[22]:=by simpa using Array.mem_of_getElem? ht
    exact (show Tryz.prog.wantsStandIn t=false by simpa using List.all_eq_true.1 ka t hm)⟩)
  kg
end Go.Proofs.YtjgdilohhcheoaaGreatDoor.livesFollowed
