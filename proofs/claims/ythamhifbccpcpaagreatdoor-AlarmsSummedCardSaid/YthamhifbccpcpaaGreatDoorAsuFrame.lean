/- For every list of numbers the Go function fleetlaw1.AlarmsSummed returns true and leaves its argument as it was, where the tables of unicode and utf8 are laid as its row tells (the given statement Rows.AlarmsSummedCardSaid); no condition. -/
import Derived.Test.YthamhifbccpcpaaGreatDoorAsuFrameB
namespace Go.Proofs.YthamhifbccpcpaaGreatDoor.alarmsSummed
open Go.ChangeShapes Go.WideShapes Go.ChangeAt Go.RowKit
open Go.ChangeMaps (open_string shut_string)
set_option linter.unusedVariables false
theorem kl:true=Tryz.prog.looks []:=by kernel_rfl
theorem kw:Rows.alarmsSummedRow.wfByText (OpenSpec.ofChange Rows.alarmsSummedSpec)=true:=by kernel_rfl
theorem km:Tryz.pinned.checked.prog.mainIs=some ((true,"62e4c716bfad14c648ee31d301576f1e1957f7241f9dd54450bd8b15fc13ce50").1,(true,"62e4c716bfad14c648ee31d301576f1e1957f7241f9dd54450bd8b15fc13ce50").2.toList):=by kernel_rfl
theorem kg:false=Rows.alarmsSummedRow.goesBy Tryz.pinned.checked.prog:=by kernel_rfl
theorem kn:Tryz.prog.funcNamed Rows.alarmsSummedRow.func=some 3:=by kernel_rfl
theorem ka:([22].all fun u=>!Tryz.prog.wantsStandIn u)=true:=by kernel_rfl
theorem card:Rows.AlarmsSummedCardSaid:=
 Claim7.holds_tied_plain_at .later [] [.data,.data,.data,.data,.sentinel,.sentinel,.pinned] true (true,"62e4c716bfad14c648ee31d301576f1e1957f7241f9dd54450bd8b15fc13ce50") true
  over (fun _ h=>by cases h) kw (fun _ h=>by cases h) alarmsSummed_row_tie rfl ⟨rfl,rfl⟩ km rfl
  (fun f fn hf KU=>by
   obtain rfl:f=3:=Option.some.inj (kn.symm.trans hf)|>.symm
   obtain rfl:fn=Tryz.f3:=(Option.some.inj (Tryz.func3.symm.trans KU)).symm
   exact ⟨kl,fun j t ht=>by
    rw [Tryz.params3] at ht
    have hm:t∈[22]:=by simpa using Array.mem_of_getElem? ht
    exact (show Tryz.prog.wantsStandIn t=false by simpa using List.all_eq_true.1 ka t hm)⟩)
  kg
end Go.Proofs.YthamhifbccpcpaaGreatDoor.alarmsSummed
