/- The frame of the law: the closed facts of its row. -/
import Derived.Test.YthfphcbipahkmaaGreatDoorCpyFrameA
namespace Go.Proofs.YthfphcbipahkmaaGreatDoor.campaignsPlayed
open Go.ChangeShapes Go.WideShapes Go.ChangeAt Go.RowKit
open Go.ChangeMaps (open_string shut_string)
set_option linter.unusedVariables false
theorem qb {a b:Bool} (h:a=true) (k:b=true):(a&&b)=true:=by rw [h,k];rfl
theorem q2:(laidOutB Tryz.pinned.checked.prog)=true:=by kernel_rfl
theorem q3:(mapsRowed Tryz.pinned.checked.prog)=true:=by kernel_rfl
theorem q7:(Tryz.pinned.checked.prog.stops==[])=true:=by kernel_rfl
theorem q9:(Tryz.pinned.checked.prog.stopKnobs==[])=true:=by kernel_rfl
theorem q10:(Rows.campaignsPlayedRow.inPlace==Tryz.pinned.checked.prog.inPlace 4)=true:=by kernel_rfl
theorem q11:(Rows.campaignsPlayedRow.unfollowed==Tryz.pinned.checked.prog.unfollowed 4)=true:=by kernel_rfl
theorem q12:(Rows.campaignsPlayedRow.recurses==Tryz.pinned.checked.prog.recurses 4)=true:=by kernel_rfl
theorem q13:(Rows.campaignsPlayedRow.named==Tryz.pinned.checked.prog.varsNamed 4)=true:=by kernel_rfl
theorem q25:(Tryz.pinned.checked.prog.stopsHeard)=true:=by kernel_rfl
theorem q26:(Tryz.pinned.checked.prog.mayEnter)=true:=by kernel_rfl
theorem q27:(Rows.campaignsPlayedRow.lifted==Tryz.pinned.checked.prog.liftsFinal)=true:=by kernel_rfl
theorem q28:(Tryz.pinned.checked.prog.make==some Rows.campaignsPlayedRow.make)=true:=by kernel_rfl
theorem qf:Tryz.pinned.checked.prog.funcNamed Rows.campaignsPlayedRow.func=some 4:=by kernel_rfl
theorem qi:Tryz.f4.isInstance Tryz.pinned.checked.prog Rows.campaignsPlayedRow.origin Rows.campaignsPlayedRow.targs:=of_decide_eq_true (by kernel_rfl)
theorem qw:Tryz.f4.isWrapper Tryz.pinned.checked.prog Rows.campaignsPlayedRow.wrapper Rows.campaignsPlayedRow.mainSum:=by unfold Func.isWrapper;first | (rw [if_pos (by decide+kernel)];kernel_rfl) | (rw [if_neg (by decide+kernel)];exact ⟨rfl,rfl⟩)
theorem qc:joinedFacts Tryz.pinned.checked.prog 4 Tryz.f4 Rows.campaignsPlayedSpec Rows.campaignsPlayedRow=true:=by
 unfold joinedFacts
 exact (qb (qb (qb (qb (qb (qb (qb (qb (qb (qb (qb (qb (qb (qb (qb (qb (qb (qb (qb (qb (qb (qb (qb (qb (qb (qb (qb (qb (qb (qb (qb (by kernel_rfl) q2) q3) (by kernel_rfl)) (by kernel_rfl)) (by kernel_rfl)) q7) (by kernel_rfl)) q9) q10) q11) q12) q13) (by kernel_rfl)) (by kernel_rfl)) (by kernel_rfl)) (by kernel_rfl)) (by kernel_rfl)) (by kernel_rfl)) (by kernel_rfl)) (by kernel_rfl)) (by kernel_rfl)) (by kernel_rfl)) (by kernel_rfl)) q25) q26) q27) q28) (by kernel_rfl)) (by kernel_rfl)) (by kernel_rfl)) (by kernel_rfl))
theorem over:Rows.campaignsPlayedRow.holds Tryz.pinned (OpenSpec.ofChange Rows.campaignsPlayedSpec):=
 OpenClaim.holds_of_wide 4 Tryz.f4 rfl rfl rfl rfl rfl rfl rfl ⟨rfl,rfl,rfl,rfl,rfl⟩ rfl rfl rfl rfl rfl qf Tryz.func4 qc qi qw
  (fun os started H enc _=>lifted os started H enc)
end Go.Proofs.YthfphcbipahkmaaGreatDoor.campaignsPlayed
