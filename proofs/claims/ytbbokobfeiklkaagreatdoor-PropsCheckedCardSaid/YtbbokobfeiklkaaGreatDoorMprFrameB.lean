/- The frame of the law: the closed facts of its row. -/
import Derived.Test.YtbbokobfeiklkaaGreatDoorMprFrameA
namespace Go.Proofs.YtbbokobfeiklkaaGreatDoor.propsChecked
open Go.ChangeShapes Go.WideShapes Go.ChangeAt Go.RowKit
open Go.ChangeMaps (open_string shut_string)
set_option linter.unusedVariables false

theorem qb {a b : Bool} (h : a = true) (k : b = true) : (a && b) = true := by rw [h, k]; rfl
theorem q2 : (laidOutB Tryz.pinned.checked.prog) = true := by kernel_rfl
theorem q3 : (mapsRowed Tryz.pinned.checked.prog) = true := by kernel_rfl
theorem q7 : (Tryz.pinned.checked.prog.stops == []) = true := by kernel_rfl
theorem q9 : (Tryz.pinned.checked.prog.stopKnobs == []) = true := by kernel_rfl
theorem q10 : (Rows.propsCheckedRow.inPlace == Tryz.pinned.checked.prog.inPlace 6) = true := by kernel_rfl
theorem q11 : (Rows.propsCheckedRow.unfollowed == Tryz.pinned.checked.prog.unfollowed 6) = true := by kernel_rfl
theorem q12 : (Rows.propsCheckedRow.recurses == Tryz.pinned.checked.prog.recurses 6) = true := by kernel_rfl
theorem q13 : (Rows.propsCheckedRow.named == Tryz.pinned.checked.prog.varsNamed 6) = true := by kernel_rfl
theorem q25 : (Tryz.pinned.checked.prog.stopsHeard) = true := by kernel_rfl
theorem q26 : (Tryz.pinned.checked.prog.mayEnter) = true := by kernel_rfl
theorem q27 : (Rows.propsCheckedRow.lifted == Tryz.pinned.checked.prog.liftsFinal) = true := by kernel_rfl
theorem q28 : (Tryz.pinned.checked.prog.make == some Rows.propsCheckedRow.make) = true := by kernel_rfl
theorem qf : Tryz.pinned.checked.prog.funcNamed Rows.propsCheckedRow.func = some 6 := by kernel_rfl
theorem qi : Tryz.f6.isInstance Tryz.pinned.checked.prog Rows.propsCheckedRow.origin Rows.propsCheckedRow.targs := of_decide_eq_true (by kernel_rfl)
theorem qw : Tryz.f6.isWrapper Tryz.pinned.checked.prog Rows.propsCheckedRow.wrapper Rows.propsCheckedRow.mainSum := by unfold Func.isWrapper; first | (rw [if_pos (by decide +kernel)]; kernel_rfl) | (rw [if_neg (by decide +kernel)]; exact ⟨rfl, rfl⟩)
theorem qc : joinedFacts Tryz.pinned.checked.prog 6 Tryz.f6 Rows.propsCheckedSpec Rows.propsCheckedRow = true := by
  unfold joinedFacts
  exact (qb (qb (qb (qb (qb (qb (qb (qb (qb (qb (qb (qb (qb (qb (qb (qb (qb (qb (qb (qb (qb (qb (qb (qb (qb (qb (qb (qb (qb (qb (qb (by kernel_rfl) q2) q3) (by kernel_rfl)) (by kernel_rfl)) (by kernel_rfl)) q7) (by kernel_rfl)) q9) q10) q11) q12) q13) (by kernel_rfl)) (by kernel_rfl)) (by kernel_rfl)) (by kernel_rfl)) (by kernel_rfl)) (by kernel_rfl)) (by kernel_rfl)) (by kernel_rfl)) (by kernel_rfl)) (by kernel_rfl)) (by kernel_rfl)) q25) q26) q27) q28) (by kernel_rfl)) (by kernel_rfl)) (by kernel_rfl)) (by kernel_rfl))
theorem over : Rows.propsCheckedRow.holds Tryz.pinned (OpenSpec.ofChange Rows.propsCheckedSpec) :=
  OpenClaim.holds_of_wide 6 Tryz.f6 rfl rfl rfl rfl rfl rfl rfl ⟨rfl, rfl, rfl, rfl, rfl⟩ rfl rfl rfl rfl rfl qf Tryz.func6 qc qi qw
    (fun os started H enc _ => lifted os started H enc)
end Go.Proofs.YtbbokobfeiklkaaGreatDoor.propsChecked

