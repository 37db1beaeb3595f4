/- For every list of numbers the Go function fleetlaw1.OrgsDiffer returns true and leaves its argument as it was, where the tables of unicode and utf8 are laid as its row tells (the given statement Rows.OrgsDifferCardSaid); no condition. -/
import Derived.Test.YtnchkajkgjkpmaaGreatDoorOdfFrameB
namespace Go.Proofs.YtnchkajkgjkpmaaGreatDoor.orgsDiffer
open Go.ChangeShapes Go.WideShapes Go.ChangeAt Go.RowKit
open Go.ChangeMaps (open_string shut_string)
set_option linter.unusedVariables false
theorem kl:true=Tryz.prog.looks []:=by kernel_rfl
theorem kw:Rows.orgsDifferRow.wfByText (OpenSpec.ofChange Rows.orgsDifferSpec)=true:=by kernel_rfl
theorem km:Tryz.pinned.checked.prog.mainIs=some ((true,"762f830f2bee1232eed1a728fe8f9f175ca8d1b9be740684a45d386e9c3f8620").1,(true,"762f830f2bee1232eed1a728fe8f9f175ca8d1b9be740684a45d386e9c3f8620").2.toList):=by kernel_rfl
theorem kg:false=Rows.orgsDifferRow.goesBy Tryz.pinned.checked.prog:=by kernel_rfl
theorem kn:Tryz.prog.funcNamed Rows.orgsDifferRow.func=some 4:=by kernel_rfl
theorem ka:([22].all fun u=>!Tryz.prog.wantsStandIn u)=true:=by kernel_rfl
theorem card:Rows.OrgsDifferCardSaid:=
 Claim7.holds_tied_plain_at .later [] [.data,.pinned] true (true,"762f830f2bee1232eed1a728fe8f9f175ca8d1b9be740684a45d386e9c3f8620") true
  over (fun _ h=>by cases h) kw (fun _ h=>by cases h) orgsDiffer_row_tie rfl ⟨rfl,rfl⟩ km rfl
  (fun f fn hf hfn=>by
   obtain rfl:f=4:=Option.some.inj (kn.symm.trans hf)|>.symm
   obtain rfl:fn=Tryz.f4:=(Option.some.inj (Tryz.func4.symm.trans hfn)).symm
   exact ⟨kl,fun j t ht=>by
    rw [Tryz.params4] at ht
    have hm:t∈[22]:=by simpa using Array.mem_of_getElem? ht
    exact (show Tryz.prog.wantsStandIn t=false by simpa using List.all_eq_true.1 ka t hm)⟩)
  kg
end Go.Proofs.YtnchkajkgjkpmaaGreatDoor.orgsDiffer
