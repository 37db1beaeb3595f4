/- For every list of numbers the Go function fleetlaw1.RightsDecided returns true and leaves its argument as it was, where the tables of unicode and utf8 are laid as its row tells (the given statement Rows.RightsDecidedCardSaid); no condition. -/
import Derived.Test.YtnchkajkgjkpmaaGreatDoorRigFrameB
namespace Go.Proofs.YtnchkajkgjkpmaaGreatDoor.rightsDecided
open Go.ChangeShapes Go.WideShapes Go.ChangeAt Go.RowKit
open Go.ChangeMaps (open_string shut_string)
set_option linter.unusedVariables false
theorem kl:true=Tryz.prog.looks []:=by kernel_rfl
theorem kw:Rows.rightsDecidedRow.wfByText (OpenSpec.ofChange Rows.rightsDecidedSpec)=true:=by kernel_rfl
theorem km:Tryz.pinned.checked.prog.mainIs=some ((true,"762f830f2bee1232eed1a728fe8f9f175ca8d1b9be740684a45d386e9c3f8620").1,(true,"762f830f2bee1232eed1a728fe8f9f175ca8d1b9be740684a45d386e9c3f8620").2.toList):=by kernel_rfl
theorem kg:false=Rows.rightsDecidedRow.goesBy Tryz.pinned.checked.prog:=by kernel_rfl
theorem kn:Tryz.prog.funcNamed Rows.rightsDecidedRow.func=some 3:=by kernel_rfl
theorem ka:([22].all fun u=>!Tryz.prog.wantsStandIn u)=true:=by kernel_rfl
theorem card:Rows.RightsDecidedCardSaid:=
 Claim7.holds_tied_plain_at .later [] [.data,.pinned] true (true,"762f830f2bee1232eed1a728fe8f9f175ca8d1b9be740684a45d386e9c3f8620") true
  over (fun _ h=>by cases h) kw (fun _ h=>by cases h) rightsDecided_row_tie rfl ⟨rfl,rfl⟩ km rfl
  (fun f fn hf XR=>by
   obtain rfl:f=3:=Option.some.inj (kn.symm.trans hf)|>.symm
   obtain rfl:fn=Tryz.f3:=(Option.some.inj (Tryz.func3.symm.trans XR)).symm
   exact ⟨kl,fun j t ht=>by
    rw [Tryz.params3] at ht
    have hm:t∈[22]:=by simpa using Array.mem_of_getElem? ht
    exact (show Tryz.prog.wantsStandIn t=false by simpa using List.all_eq_true.1 ka t hm)⟩)
  kg
end Go.Proofs.YtnchkajkgjkpmaaGreatDoor.rightsDecided
