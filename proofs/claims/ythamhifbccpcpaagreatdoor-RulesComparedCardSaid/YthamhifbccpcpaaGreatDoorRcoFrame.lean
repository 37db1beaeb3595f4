/- For every list of numbers the Go function fleetlaw1.RulesCompared returns true and leaves its argument as it was, where the tables of unicode and utf8 are laid as its row tells (the given statement Rows.RulesComparedCardSaid); no condition. -/
import Derived.Test.YthamhifbccpcpaaGreatDoorRcoFrameB
namespace Go.Proofs.YthamhifbccpcpaaGreatDoor.rulesCompared
open Go.ChangeShapes Go.WideShapes Go.ChangeAt Go.RowKit
open Go.ChangeMaps (open_string shut_string)
set_option linter.unusedVariables false
theorem kl:true=Tryz.prog.looks []:=by kernel_rfl
theorem kw:Rows.rulesComparedRow.wfByText (OpenSpec.ofChange Rows.rulesComparedSpec)=true:=by kernel_rfl
theorem km:Tryz.pinned.checked.prog.mainIs=some ((true,"62e4c716bfad14c648ee31d301576f1e1957f7241f9dd54450bd8b15fc13ce50").1,(true,"62e4c716bfad14c648ee31d301576f1e1957f7241f9dd54450bd8b15fc13ce50").2.toList):=by kernel_rfl
theorem kg:false=Rows.rulesComparedRow.goesBy Tryz.pinned.checked.prog:=by kernel_rfl
theorem kn:Tryz.prog.funcNamed Rows.rulesComparedRow.func=some 4:=by kernel_rfl
theorem ka:([22].all fun u=>!Tryz.prog.wantsStandIn u)=true:=by kernel_rfl
theorem card:Rows.RulesComparedCardSaid:=
 Claim7.holds_tied_plain_at .later [] [.data,.pinned] true (true,"62e4c716bfad14c648ee31d301576f1e1957f7241f9dd54450bd8b15fc13ce50") true
  over (fun _ h=>by cases h) kw (fun _ h=>by cases h) rulesCompared_row_tie rfl ⟨rfl,rfl⟩ km rfl
  (fun f fn hf V0=>by
   obtain rfl:f=4:=Option.some.inj (kn.symm.trans hf)|>.symm
   obtain rfl:fn=Tryz.f4:=(Option.some.inj (Tryz.func4.symm.trans V0)).symm
   exact ⟨kl,fun j t ht=>by
    rw [Tryz.params4] at ht
    have hm:t∈[22]:=by simpa using Array.mem_of_getElem? ht
    exact (show Tryz.prog.wantsStandIn t=false by simpa using List.all_eq_true.1 ka t hm)⟩)
  kg
end Go.Proofs.YthamhifbccpcpaaGreatDoor.rulesCompared
