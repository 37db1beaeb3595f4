/- For every list of numbers the Go function fleetlaw1.PeopleTold returns true and leaves its argument as it was, where the tables of unicode and utf8 are laid as its row tells (the given statement Rows.PeopleToldCardSaid); no condition. -/
import Derived.Test.YtodkphmmhgkodaaGreatDoorNctFrameB
namespace Go.Proofs.YtodkphmmhgkodaaGreatDoor.peopleTold
open Go.ChangeShapes Go.WideShapes Go.ChangeAt Go.RowKit
open Go.ChangeMaps (open_string shut_string)
set_option linter.unusedVariables false
theorem kl:false=Tryz.prog.looks []:=by kernel_rfl
theorem kw:Rows.peopleToldRow.wfByText (OpenSpec.ofChange Rows.peopleToldSpec)=true:=by kernel_rfl
theorem km:Tryz.pinned.checked.prog.mainIs=some ((true,"caa73bcb472c2a5f51c02af61f9e9cdec6057005189a77bf13c832d777dae17f").1,(true,"caa73bcb472c2a5f51c02af61f9e9cdec6057005189a77bf13c832d777dae17f").2.toList):=by kernel_rfl
theorem kg:false=Rows.peopleToldRow.goesBy Tryz.pinned.checked.prog:=by kernel_rfl
theorem kn:Tryz.prog.funcNamed Rows.peopleToldRow.func=some 3:=by kernel_rfl
theorem ka:([22].all fun u=>!Tryz.prog.wantsStandIn u)=true:=by kernel_rfl
theorem card:Rows.PeopleToldCardSaid:=
 Claim7.holds_tied_plain_at .later [] [.data,.pinned] true (true,"caa73bcb472c2a5f51c02af61f9e9cdec6057005189a77bf13c832d777dae17f") false
  over (fun _ h=>by cases h) kw (fun _ h=>by cases h) peopleTold_row_tie rfl ⟨rfl,rfl⟩ km rfl
  (fun f fn hf Kk=>by
   obtain rfl:f=3:=Option.some.inj (kn.symm.trans hf)|>.symm
   obtain rfl:fn=Tryz.f3:=(Option.some.inj (Tryz.func3.symm.trans Kk)).symm
   exact ⟨kl,fun j t ht=>by
    rw [Tryz.params3] at ht
    have hm:t∈[22]:=by simpa using Array.mem_of_getElem? ht
    exact (show Tryz.prog.wantsStandIn t=false by simpa using List.all_eq_true.1 ka t hm)⟩)
  kg
end Go.Proofs.YtodkphmmhgkodaaGreatDoor.peopleTold
