/- The frame of the law: the closed facts of its row. -/
import Derived.Test.YtipbfaojbmendaaGreatDoorTcrFrameA
namespace Go.Proofs.YtipbfaojbmendaaGreatDoor.topCampaignsReach
open Go.ChangeShapes Go.WideShapes Go.ChangeAt Go.RowKit
open Go.ChangeMaps (open_string shut_string)
set_option linter.unusedVariables false
theorem qb {a b:Bool} (h:a=true) (k:b=true):(a&&b)=true:=by rw [h,k];rfl
theorem q2:(laidOutB Tryz.pinned.checked.prog)=true:=by kernel_rfl
theorem q3:(mapsRowed Tryz.pinned.checked.prog)=true:=by kernel_rfl
theorem q7:(Tryz.pinned.checked.prog.stops==[])=true:=by kernel_rfl
theorem q9:(Tryz.pinned.checked.prog.stopKnobs==[])=true:=by kernel_rfl
theorem q10:(Rows.topCampaignsReachRow.inPlace==Tryz.pinned.checked.prog.inPlace 3)=true:=by kernel_rfl
theorem q11:(Rows.topCampaignsReachRow.unfollowed==Tryz.pinned.checked.prog.unfollowed 3)=true:=by kernel_rfl
theorem q12:(Rows.topCampaignsReachRow.recurses==Tryz.pinned.checked.prog.recurses 3)=true:=by kernel_rfl
theorem q13:(Rows.topCampaignsReachRow.named==Tryz.pinned.checked.prog.varsNamed 3)=true:=by kernel_rfl
theorem q25:(Tryz.pinned.checked.prog.stopsHeard)=true:=by kernel_rfl
theorem q26:(Tryz.pinned.checked.prog.mayEnter)=true:=by kernel_rfl
theorem q27:(Rows.topCampaignsReachRow.lifted==Tryz.pinned.checked.prog.liftsFinal)=true:=by kernel_rfl
theorem q28:(Tryz.pinned.checked.prog.make==some Rows.topCampaignsReachRow.make)=true:=by kernel_rfl
theorem qf:Tryz.pinned.checked.prog.funcNamed Rows.topCampaignsReachRow.func=some 3:=by kernel_rfl
theorem qi:Tryz.f3.isInstance Tryz.pinned.checked.prog Rows.topCampaignsReachRow.origin Rows.topCampaignsReachRow.targs:=of_decide_eq_true (by kernel_rfl)
theorem qw:Tryz.f3.isWrapper Tryz.pinned.checked.prog Rows.topCampaignsReachRow.wrapper Rows.topCampaignsReachRow.mainSum:=by unfold Func.isWrapper;first | (rw [if_pos (by decide+kernel)];kernel_rfl) | (rw [if_neg (by decide+kernel)];exact ⟨rfl,rfl⟩)
theorem qc:joinedFacts Tryz.pinned.checked.prog 3 Tryz.f3 Rows.topCampaignsReachSpec Rows.topCampaignsReachRow=true:=by
 unfold joinedFacts
 exact (qb (qb (qb (qb (qb (qb (qb (qb (qb (qb (qb (qb (qb (qb (qb (qb (qb (qb (qb (qb (qb (qb (qb (qb (qb (qb (qb (qb (qb (qb (qb (by kernel_rfl) q2) q3) (by kernel_rfl)) (by kernel_rfl)) (by kernel_rfl)) q7) (by kernel_rfl)) q9) q10) q11) q12) q13) (by kernel_rfl)) (by kernel_rfl)) (by kernel_rfl)) (by kernel_rfl)) (by kernel_rfl)) (by kernel_rfl)) (by kernel_rfl)) (by kernel_rfl)) (by kernel_rfl)) (by kernel_rfl)) (by kernel_rfl)) q25) q26) q27) q28) (by kernel_rfl)) (by kernel_rfl)) (by kernel_rfl)) (by kernel_rfl))
theorem over:Rows.topCampaignsReachRow.holds Tryz.pinned (OpenSpec.ofChange Rows.topCampaignsReachSpec):=
 OpenClaim.holds_of_wide 3 Tryz.f3 rfl rfl rfl rfl rfl rfl rfl ⟨rfl,rfl,rfl,rfl,rfl⟩ rfl rfl rfl rfl rfl qf Tryz.func3 qc qi qw
  (fun os started H enc _=>lifted os started H enc)
end Go.Proofs.YtipbfaojbmendaaGreatDoor.topCampaignsReach
