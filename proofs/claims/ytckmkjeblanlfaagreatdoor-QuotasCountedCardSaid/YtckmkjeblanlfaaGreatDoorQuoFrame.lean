/- For every list of numbers the Go function fleetlaw1.QuotasCounted returns true and leaves its argument as it was, where the tables of unicode and utf8 are laid as its row tells (the given statement Rows.QuotasCountedCardSaid); no condition. -/
import Derived.Test.YtckmkjeblanlfaaGreatDoorQuoFrameB
namespace Go.Proofs.YtckmkjeblanlfaaGreatDoor.quotasCounted
open Go.ChangeShapes Go.WideShapes Go.ChangeAt Go.RowKit
open Go.ChangeMaps (open_string shut_string)
set_option linter.unusedVariables false
theorem kl:true=Tryz.prog.looks []:=by kernel_rfl
theorem kw:Rows.quotasCountedRow.wfByText (OpenSpec.ofChange Rows.quotasCountedSpec)=true:=by kernel_rfl
theorem km:Tryz.pinned.checked.prog.mainIs=some ((true,"7b4d88c267d34d4b7de269134085da11420a1e0e1bac4b8853fa6ad1900c6824").1,(true,"7b4d88c267d34d4b7de269134085da11420a1e0e1bac4b8853fa6ad1900c6824").2.toList):=by kernel_rfl
theorem kg:false=Rows.quotasCountedRow.goesBy Tryz.pinned.checked.prog:=by kernel_rfl
theorem kn:Tryz.prog.funcNamed Rows.quotasCountedRow.func=some 4:=by kernel_rfl
theorem ka:([22].all fun u=>!Tryz.prog.wantsStandIn u)=true:=by kernel_rfl
theorem card:Rows.QuotasCountedCardSaid:=
 Claim7.holds_tied_plain_at .later [] [.data,.pinned] true (true,"7b4d88c267d34d4b7de269134085da11420a1e0e1bac4b8853fa6ad1900c6824") true
  over (fun _ h=>by cases h) kw (fun _ h=>by cases h) quotasCounted_row_tie rfl ⟨rfl,rfl⟩ km rfl
  (fun f fn hf Wf=>by
   obtain rfl:f=4:=Option.some.inj (kn.symm.trans hf)|>.symm
   obtain rfl:fn=Tryz.f4:=(Option.some.inj (Tryz.func4.symm.trans Wf)).symm
   exact ⟨kl,fun j t ht=>by
    rw [Tryz.params4] at ht
    have hm:t∈[22]:=by simpa using Array.mem_of_getElem? ht
    exact (show Tryz.prog.wantsStandIn t=false by simpa using List.all_eq_true.1 ka t hm)⟩)
  kg
end Go.Proofs.YtckmkjeblanlfaaGreatDoor.quotasCounted
