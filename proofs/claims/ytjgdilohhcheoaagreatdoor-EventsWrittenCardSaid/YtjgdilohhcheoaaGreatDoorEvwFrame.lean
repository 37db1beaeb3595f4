/- For every list of numbers the Go function fleetlaw1.EventsWritten returns true and leaves its argument as it was, where the tables of unicode and utf8 are laid as its row tells (the given statement Rows.EventsWrittenCardSaid); no condition. -/
import Derived.Test.YtjgdilohhcheoaaGreatDoorEvwFrameB
namespace Go.Proofs.YtjgdilohhcheoaaGreatDoor.eventsWritten
open Go.ChangeShapes Go.WideShapes Go.ChangeAt Go.RowKit
open Go.ChangeMaps (open_string shut_string)
set_option linter.unusedVariables false
theorem kl:false=Tryz.prog.looks []:=by kernel_rfl
theorem kw:Rows.eventsWrittenRow.wfByText (OpenSpec.ofChange Rows.eventsWrittenSpec)=true:=by kernel_rfl
theorem km:Tryz.pinned.checked.prog.mainIs=some ((true,"5d3043f22d73b3e071fa6e9e2f81bbaa783b544109df3abd5a1ef40d0e80f97d").1,(true,"5d3043f22d73b3e071fa6e9e2f81bbaa783b544109df3abd5a1ef40d0e80f97d").2.toList):=by kernel_rfl
theorem kg:false=Rows.eventsWrittenRow.goesBy Tryz.pinned.checked.prog:=by kernel_rfl
theorem kn:Tryz.prog.funcNamed Rows.eventsWrittenRow.func=some 3:=by kernel_rfl
theorem ka:([22].all fun u=>!Tryz.prog.wantsStandIn u)=true:=by kernel_rfl
theorem card:Rows.EventsWrittenCardSaid:=
 Claim7.holds_tied_plain_at .later [] [.data,.data,.data,.data,.pinned,.pinned] true (true,"5d3043f22d73b3e071fa6e9e2f81bbaa783b544109df3abd5a1ef40d0e80f97d") false
  over (fun _ h=>by cases h) kw (fun _ h=>by cases h) eventsWritten_row_tie rfl ⟨rfl,rfl⟩ km rfl
  (fun f fn hf Ky=>by
   obtain rfl:f=3:=Option.some.inj (kn.symm.trans hf)|>.symm
   obtain rfl:fn=Tryz.f3:=(Option.some.inj (Tryz.func3.symm.trans Ky)).symm
   exact ⟨kl,fun j t ht=>by
    rw [Tryz.params3] at ht
    have hm:t∈[22]:=by simpa using Array.mem_of_getElem? ht
    exact (show Tryz.prog.wantsStandIn t=false by simpa using List.all_eq_true.1 ka t hm)⟩)
  kg
end Go.Proofs.YtjgdilohhcheoaaGreatDoor.eventsWritten
