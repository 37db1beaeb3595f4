/- For every list of numbers the Go function fleetlaw1.CausesShown returns true and leaves its argument as it was, where the tables of unicode and utf8 are laid as its row tells (the given statement Rows.CausesShownCardSaid); no condition. -/
import Derived.Test.YtifmjkaghhkhfaaGreatDoorCauFrameB
namespace Go.Proofs.YtifmjkaghhkhfaaGreatDoor.causesShown
open Go.ChangeShapes Go.WideShapes Go.ChangeAt Go.RowKit
open Go.ChangeMaps (open_string shut_string)
set_option linter.unusedVariables false
theorem kl:false=Tryz.prog.looks []:=by kernel_rfl
theorem kw:Rows.causesShownRow.wfByText (OpenSpec.ofChange Rows.causesShownSpec)=true:=by kernel_rfl
theorem km:Tryz.pinned.checked.prog.mainIs=some ((true,"603ac94b0a5123568708e431cd230a70b2f1fc192d43385dc4323c18a3c85c64").1,(true,"603ac94b0a5123568708e431cd230a70b2f1fc192d43385dc4323c18a3c85c64").2.toList):=by kernel_rfl
theorem kg:false=Rows.causesShownRow.goesBy Tryz.pinned.checked.prog:=by kernel_rfl
theorem kn:Tryz.prog.funcNamed Rows.causesShownRow.func=some 5:=by kernel_rfl
theorem ka:([22].all fun u=>!Tryz.prog.wantsStandIn u)=true:=by kernel_rfl
theorem card:Rows.CausesShownCardSaid:=
 Claim7.holds_tied_plain_at .later [] [.data,.pinned] true (true,"603ac94b0a5123568708e431cd230a70b2f1fc192d43385dc4323c18a3c85c64") false
  over (fun _ h=>by cases h) kw (fun _ h=>by cases h) causesShown_row_tie rfl ⟨rfl,rfl⟩ km rfl
  (fun f fn hf Jx=>by
   obtain rfl:f=5:=Option.some.inj (kn.symm.trans hf)|>.symm
   obtain rfl:fn=Tryz.f5:=(Option.some.inj (Tryz.func5.symm.trans Jx)).symm
   exact ⟨kl,fun j t ht=>by
    rw [Tryz.params5] at ht
    have hm:t∈[22]:=by simpa using Array.mem_of_getElem? ht
    exact (show Tryz.prog.wantsStandIn t=false by simpa using List.all_eq_true.1 ka t hm)⟩)
  kg
end Go.Proofs.YtifmjkaghhkhfaaGreatDoor.causesShown
