/- The frame of the law: the closed facts of its row. -/
import Derived.Test.YthfphcbipahkmaaGreatDoorOfmFrameA
namespace Go.Proofs.YthfphcbipahkmaaGreatDoor.offersMade
open Go.ChangeShapes Go.WideShapes Go.ChangeAt Go.RowKit
open Go.ChangeMaps (open_string shut_string)
set_option linter.unusedVariables false
theorem qb {a b:Bool} (h:a=true) (k:b=true):(a&&b)=true:=by rw [h,k];rfl
theorem q2:(laidOutB Tryz.pinned.checked.prog)=true:=by kernel_rfl
theorem q3:(mapsRowed Tryz.pinned.checked.prog)=true:=by kernel_rfl
theorem q7:(Tryz.pinned.checked.prog.stops==[])=true:=by kernel_rfl
theorem q9:(Tryz.pinned.checked.prog.stopKnobs==[])=true:=by kernel_rfl
theorem q10:(Rows.offersMadeRow.inPlace==Tryz.pinned.checked.prog.inPlace 3)=true:=by kernel_rfl
theorem q11:(Rows.offersMadeRow.unfollowed==Tryz.pinned.checked.prog.unfollowed 3)=true:=by kernel_rfl
theorem q12:(Rows.offersMadeRow.recurses==Tryz.pinned.checked.prog.recurses 3)=true:=by kernel_rfl
theorem q13:(Rows.offersMadeRow.named==Tryz.pinned.checked.prog.varsNamed 3)=true:=by kernel_rfl
theorem q25:(Tryz.pinned.checked.prog.stopsHeard)=true:=by kernel_rfl
theorem vC:(Tryz.pinned.checked.prog.mayEnter)=true:=by kernel_rfl
theorem q27:(Rows.offersMadeRow.lifted==Tryz.pinned.checked.prog.liftsFinal)=true:=by kernel_rfl
theorem q28:(Tryz.pinned.checked.prog.make==some Rows.offersMadeRow.make)=true:=by kernel_rfl
theorem qf:Tryz.pinned.checked.prog.funcNamed Rows.offersMadeRow.func=some 3:=by kernel_rfl
theorem qi:Tryz.f3.isInstance Tryz.pinned.checked.prog Rows.offersMadeRow.origin Rows.offersMadeRow.targs:=of_decide_eq_true (by kernel_rfl)
theorem qw:Tryz.f3.isWrapper Tryz.pinned.checked.prog Rows.offersMadeRow.wrapper Rows.offersMadeRow.mainSum:=by unfold Func.isWrapper;first | (rw [if_pos (by decide+kernel)];kernel_rfl) | (rw [if_neg (by decide+kernel)];exact ⟨rfl,rfl⟩)
theorem qc:joinedFacts Tryz.pinned.checked.prog 3 Tryz.f3 Rows.offersMadeSpec Rows.offersMadeRow=true:=by
 unfold joinedFacts
 exact (qb (qb (qb (qb (qb (qb (qb (qb (qb (qb (qb (qb (qb (qb (qb (qb (qb (qb (qb (qb (qb (qb (qb (qb (qb (qb (qb (qb (qb (qb (qb (by kernel_rfl) q2) q3) (by kernel_rfl)) (by kernel_rfl)) (by kernel_rfl)) q7) (by kernel_rfl)) q9) q10) q11) q12) q13) (by kernel_rfl)) (by kernel_rfl)) (by kernel_rfl)) (by kernel_rfl)) (by kernel_rfl)) (by kernel_rfl)) (by kernel_rfl)) (by kernel_rfl)) (by kernel_rfl)) (by kernel_rfl)) (by kernel_rfl)) q25) vC) q27) q28) (by kernel_rfl)) (by kernel_rfl)) (by kernel_rfl)) (by kernel_rfl))
theorem over:Rows.offersMadeRow.holds Tryz.pinned (OpenSpec.ofChange Rows.offersMadeSpec):=
 OpenClaim.holds_of_wide 3 Tryz.f3 rfl rfl rfl rfl rfl rfl rfl ⟨rfl,rfl,rfl,rfl,rfl⟩ rfl rfl rfl rfl rfl qf Tryz.func3 qc qi qw
  (fun os started H enc _=>lifted os started H enc)
end Go.Proofs.YthfphcbipahkmaaGreatDoor.offersMade
