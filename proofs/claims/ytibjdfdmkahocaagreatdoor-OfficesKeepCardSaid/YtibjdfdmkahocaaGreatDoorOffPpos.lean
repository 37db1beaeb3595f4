/- An office keeps a letter: what the laws of the commands look at last. No program in sight. -/
import Derived.Test.YtibjdfdmkahocaaGreatDoorOffPmar
set_option linter.unusedVariables false
set_option linter.unusedSimpArgs false
namespace Go.Beacon
open Go Go.Eng

theorem overP_nil {E A : Type} {g : List E → Option A} {r : A} (h : g [] = some r) : overP [] g = some r :=
  overP_of fun p hp => by rw [List.Perm.eq_nil hp]; exact h
theorem overP_one {E A : Type} {e : E} {g : List E → Option A} {r : A} (h : g [e] = some r) : overP [e] g = some r :=
  overP_of fun p hp => by rw [List.perm_singleton.1 hp]; exact h
theorem nilSrt : ∀ f, slices_SortFunc_Note_Note [] f = some [] := fun f => rfl
theorem aged_fin (o : Command_Office) (M : List (Str × Note)) (hk : 0 ≤ o.post_.Kept ∧ o.post_.Kept ≤ 1000) : command_Office_aged_f1 o M [] = some M := by
  unfold command_Office_aged_f1
  rw [len_ok (nilSrt _) rfl]
  simp only [Option.bind_some, List.length_nil, Int.natCast_zero]
  have e : max (0 : Int) (w64 (0 - o.post_.Kept)) = 0 := by
    rw [w64_in (by omega) (by omega)]; omega
  rw [e, slc_in (by omega) (by omega) (by simp)]
  simp only [Option.bind_some]
  unfold command_Office_aged_l2
  rw [iter_eq, command_Office_aged_b2, if_neg (by simp), map_inr_after]
theorem posted_eq : L_posted = some true := by
  have hN : command_New (⟨1, 1, 1, 0⟩ : Post) = (some (⟨⟨1, 1, 1, 0⟩, [], 0⟩ : Command_Office), 0) := by
    have : command_CheckPost (⟨1, 1, 1, 0⟩ : Post) = 0 := by
      unfold command_CheckPost command_CheckPost_j1
      rw [Out_eq, Out_eq, Out_eq, Out_eq]; simp
    unfold command_New
    rw [this]; simp
  have hL : letE (⟨[97], [], [], 0, 0, 5⟩ : Letter) = 0 := by
    have h1 : keyB ([97] : Str) = true := by decide
    have h2 : unmB ([] : Str) = true := by decide
    unfold letE
    simp [h1, h2]
  have hT0 : ∀ M, command_Office_timeFault (⟨⟨1, 1, 1, 0⟩, M, 0⟩ : Command_Office) 0 = 0 := by
    intro M
    unfold command_Office_timeFault
    rw [Moment_eq]; simp
  have hA : command_Office_aged (⟨⟨1, 1, 1, 0⟩, [], 0⟩ : Command_Office) 0 = some [] := by
    unfold command_Office_aged command_Office_aged_l1
    refine overP_nil ?_
    show command_Office_aged_f1 _ [] [] = _
    exact aged_fin _ _ (by simp)
  have hP0 : command_pending [] = some 0 := by
    unfold command_pending command_pending_l1
    exact overP_nil rfl
  have hput : command_Office_Put (⟨⟨1, 1, 1, 0⟩, [], 0⟩ : Command_Office) (⟨[97], [], [], 0, 0, 5⟩ : Letter) = some (0, (⟨⟨1, 1, 1, 0⟩, [([97], ⟨⟨[97], [], [], 0, 0, 5⟩, 1, 0, 0⟩)], 0⟩ : Command_Office)) := by
    unfold command_Office_Put
    rw [CheckLetter_eq, hL]
    simp only [Option.bind_some, hT0]
    rw [First_eq _ (by simp)]
    simp only [Option.bind_some]
    rw [show orL [(0 : Int), 0] = 0 from rfl, if_neg (by simp), hA]
    simp only [Option.bind_some]
    rw [show mget2 ([] : List (Str × Note)) ([97] : Str) (⟨⟨[], [], [], 0, 0, 0⟩, 0, 0, 0⟩ : Note) = some ((⟨⟨[], [], [], 0, 0, 0⟩, 0, 0, 0⟩ : Note), false) from rfl]
    simp only [Option.bind_some]
    rw [if_neg (by simp)]
    unfold command_Office_Put_l1
    refine overP_nil ?_
    show command_Office_Put_f1 _ _ _ _ = _
    unfold command_Office_Put_f1
    rw [if_neg (by simp)]
    unfold command_Office_Put_j1
    rw [hP0]
    simp only [Option.bind_some]
    rw [if_neg (by simp), if_neg (by simp)]
    rfl
  have hG : command_Office_grown (⟨⟨1, 1, 1, 0⟩, [([97], ⟨⟨[97], [], [], 0, 0, 5⟩, 1, 0, 0⟩)], 0⟩ : Command_Office) (⟨⟨[97], [], [], 0, 0, 5⟩, 1, 0, 0⟩ : Note) 0 = some ⟨⟨[97], [], [], 0, 0, 5⟩, 1, 0, 0⟩ := by
    unfold command_Office_grown command_Office_grown_l1
    rw [iter_eq, command_Office_grown_b1]
    have he : command_ended 1 = false := by unfold command_ended; decide
    rw [if_pos (by simp [he]), if_pos (by unfold command_Office_turn; simp), map_inr_after]
    rfl
  have hW : command_Office_aged (⟨⟨1, 1, 1, 0⟩, [([97], ⟨⟨[97], [], [], 0, 0, 5⟩, 1, 0, 0⟩)], 0⟩ : Command_Office) 0 = some [([97], ⟨⟨[97], [], [], 0, 0, 5⟩, 1, 0, 0⟩)] := by
    unfold command_Office_aged command_Office_aged_l1
    refine overP_one ?_
    simp only [loopL]
    unfold command_Office_aged_b1
    simp only [hG, Option.bind_some]
    have he : command_ended 1 = false := by unfold command_ended; decide
    rw [if_neg (by simp [he])]
    unfold command_Office_aged_j1
    simp only [Option.bind_some, after_inl]
    exact aged_fin _ _ (by simp)
  have hP1 : command_pending [([97], (⟨⟨[97], [], [], 0, 0, 5⟩, 1, 0, 0⟩ : Note))] = some 1 := by
    unfold command_pending command_pending_l1
    refine overP_one ?_
    simp only [loopL]
    unfold command_pending_b1
    have he : command_ended 1 = false := by unfold command_ended; decide
    rw [if_pos (by simp [he])]
    unfold command_pending_j1
    simp only [Option.bind_some, after_inl]
    rw [show w64 (0 + 1) = 1 by decide]
    rfl
  unfold L_posted
  rw [hN, casesO_some]
  rw [if_neg (by simp), hput]
  simp only [Option.bind_some]
  unfold L_posted_j2
  rw [if_neg (by simp)]
  unfold command_Office_Waiting
  rw [hT0, if_neg (by simp), hW]
  simp only [Option.bind_some, command_Office_keep, hP1]
  rfl
end Go.Beacon
