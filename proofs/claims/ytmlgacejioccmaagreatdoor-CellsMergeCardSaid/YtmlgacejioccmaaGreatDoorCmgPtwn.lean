/- The package twin compares: twinned. No program in sight. -/
import Derived.Test.YtmlgacejioccmaaGreatDoorCmgPprq
set_option linter.unusedVariables false
set_option linter.unusedSimpArgs false
namespace Go.Beacon
open Go Go.Eng

def pA : PropS := ⟨[97], ⟨1, false, 0, []⟩⟩
theorem chk_nil : twin_CheckProps [] = some 0 := by
  unfold twin_CheckProps
  rw [if_neg (by simp)]
  unfold twin_CheckProps_l1
  rw [iter_eq]
  show Option.bind (twin_CheckProps_b1 [] 0) _ = _
  unfold twin_CheckProps_b1
  rw [if_neg (by simp)]
  unfold twin_CheckProps_l2
  rw [iter_eq]
  show Option.bind (Option.map _ (Option.bind (twin_CheckProps_b2 [] 0) _)) _ = _
  unfold twin_CheckProps_b2
  rw [if_neg (by simp)]
  rfl
theorem sn_one : SN [pA] := List.pairwise_singleton _ _
theorem pb_one : PB [pA] := ⟨by simp, fun p hp => by rw [List.mem_singleton] at hp; subst hp; simp [pA]⟩
theorem vf_one : twin_valueFault pA.Value = some 0 := by
  rw [valueFault_eq _ (by simp [pA])]
  unfold Q_ValueFault pA
  rw [if_neg (by decide), if_pos rfl]
  unfold Q_ValueFault_j1
  rw [if_neg (by simp), if_neg (by decide), if_neg (by simp), Printed_eq _ (by simp)]
  rfl
theorem chk_one : twin_CheckProps [pA] = some 0 := by
  unfold twin_CheckProps
  rw [if_neg (by simp)]
  unfold twin_CheckProps_l1
  rw [iter_eq]
  show Option.bind (twin_CheckProps_b1 [pA] 0) _ = _
  have b0 : twin_CheckProps_b1 [pA] 0 = some (.inl 1) := by
    unfold twin_CheckProps_b1
    rw [if_pos (by simp), show idx [pA] 0 = some pA from rfl]
    simp only [Option.bind_some]
    rw [isName_eq (by simp [pA]), show dotB 8 pA.Name = true by decide]
    simp only [Option.bind_some]
    rw [if_neg (by simp), vf_one]
    simp only [Option.bind_some]
    rw [if_neg (by simp), if_neg (by simp [pA]), if_neg (by simp)]
    rfl
  rw [b0]
  show iter _ (1 : Int) = _
  rw [iter_eq]
  show Option.bind (twin_CheckProps_b1 [pA] 1) _ = _
  have l2 : twin_CheckProps_l2 [pA] 0 = some 0 := by
    unfold twin_CheckProps_l2
    rw [iter_eq]
    show Option.bind (twin_CheckProps_b2 [pA] 0) _ = _
    have c0 : twin_CheckProps_b2 [pA] 0 = some (.inl 1) := by
      unfold twin_CheckProps_b2
      rw [if_pos (by simp), show idx [pA] 0 = some pA from rfl]
      simp only [Option.bind_some]
      obtain ⟨r, h1, h2⟩ := above_eq pA.Name (by simp [pA]) (fun y0 => twin_CheckProps_1x y0 [pA]) (fun s => [pA].any fun q => decide (q.Name = s)) (fun s => has_eq [pA] (by simp) sn_one s)
      rw [h1]
      simp only [Option.bind_some]
      have hr : ¬ r = true := by
        intro h
        obtain ⟨i, g, _⟩ := h2.1 h
        match i, g with
        | 0, g => simp [pA] at g
        | i + 1, g => simp [pA] at g
      rw [if_neg hr]
      rfl
    rw [c0]
    show iter _ (1 : Int) = _
    rw [iter_eq]
    show Option.bind (twin_CheckProps_b2 [pA] 1) _ = _
    unfold twin_CheckProps_b2
    rw [if_neg (by simp)]
    rfl
  unfold twin_CheckProps_b1
  rw [if_neg (by simp), l2]
  rfl
theorem val_nil (s : Str) : twin_valueOf [] s = some ⟨0, false, 0, []⟩ := by
  obtain ⟨r, h1, h2⟩ := find_eq [] (by simp) List.Pairwise.nil s
  unfold twin_valueOf
  rw [h1]
  rcases h2 with ⟨p, _, g, _⟩ | ⟨rfl, _⟩
  · exact absurd (idx_mem g) (by simp)
  · rfl
theorem val_one : twin_valueOf [pA] [97] = some pA.Value := by
  obtain ⟨r, h1, h2⟩ := find_eq [pA] (by simp) sn_one [97]
  unfold twin_valueOf
  rw [h1]
  simp only [Option.bind_some]
  rcases h2 with ⟨p, g0, g, _⟩ | ⟨_, g⟩
  · have := idx_mem g
    rw [List.mem_singleton] at this
    subst this
    rw [if_pos g0, g]; rfl
  · exact absurd rfl (g pA (by simp))
theorem names_one : twin_names [[], [pA]] = some [[97]] := by
  unfold twin_names twin_names_l1
  rw [iter_eq]
  show Option.bind (twin_names_b1 [[], [pA]] [] 0) _ = _
  have s0 : twin_names_b1 [[], [pA]] [] 0 = some (.inl ([], 1)) := by
    unfold twin_names_b1
    rw [if_pos (by simp), show idx [[], [pA]] 0 = some [] from rfl]
    simp only [Option.bind_some]
    unfold twin_names_l2
    rw [iter_eq]
    show Option.bind (twin_names_b2 0 [] [] 0) _ = _
    unfold twin_names_b2
    rw [if_neg (by simp)]
    rfl
  rw [s0]
  show iter _ (([] : List Str), (1 : Int)) = _
  rw [iter_eq]
  show Option.bind (twin_names_b1 [[], [pA]] [] 1) _ = _
  have s1 : twin_names_b1 [[], [pA]] [] 1 = some (.inl ([[97]], 2)) := by
    unfold twin_names_b1
    rw [if_pos (by simp), show idx [[], [pA]] 1 = some [pA] from rfl]
    simp only [Option.bind_some]
    unfold twin_names_l2
    rw [iter_eq]
    show Option.bind (twin_names_b2 1 [pA] [] 0) _ = _
    have t0 : twin_names_b2 1 [pA] [] 0 = some (.inl ([[97]], 1)) := by
      unfold twin_names_b2
      rw [if_pos (by simp), show idx [pA] 0 = some pA from rfl]
      rfl
    rw [t0]
    show iter _ (([[97]] : List Str), (1 : Int)) = _
    rw [iter_eq]
    show Option.bind (twin_names_b2 1 [pA] [[97]] 1) _ = _
    unfold twin_names_b2
    rw [if_neg (by simp)]
    rfl
  rw [s1]
  show iter _ (([[97]] : List Str), (2 : Int)) = _
  rw [iter_eq]
  show Option.bind (twin_names_b1 [[], [pA]] [[97]] 2) _ = _
  unfold twin_names_b1
  rw [if_neg (by simp)]
  unfold twin_names_k1 slices_Sort_string_string sort1 lenOk srtS
  rw [if_pos (by simp), List.mergeSort_singleton]
  rfl
theorem twinned_eq : L_twinned = some true := by
  have hd : twin_Differ [] [pA] = some ([⟨[97], ⟨0, false, 0, []⟩, pA.Value⟩], 0) := by
    unfold twin_Differ
    rw [chk_nil, chk_one]
    simp only [Option.bind_some]
    rw [show base_First [0, 0] = some (orL [0, 0]) from gOr_eq _ (by simp), show orL [0, 0] = 0 from rfl]
    simp only [Option.bind_some]
    rw [if_neg (by simp), names_one]
    simp only [Option.bind_some]
    unfold twin_Differ_l1
    rw [iter_eq]
    show Option.bind (twin_Differ_b1 [] [pA] [[97]] [] 0) _ = _
    have t0 : twin_Differ_b1 [] [pA] [[97]] [] 0 = some (.inl ([⟨[97], ⟨0, false, 0, []⟩, pA.Value⟩], 1)) := by
      unfold twin_Differ_b1
      rw [if_pos (by simp), show idx ([[97]] : List Str) 0 = some [97] from rfl]
      simp only [Option.bind_some]
      rw [val_nil, val_one]
      simp only [Option.bind_some]
      rw [if_pos (by simp [pA])]
      rfl
    rw [t0]
    show iter _ (([⟨[97], ⟨0, false, 0, []⟩, pA.Value⟩] : List Change), (1 : Int)) = _
    rw [iter_eq]
    show Option.bind (twin_Differ_b1 [] [pA] [[97]] [⟨[97], ⟨0, false, 0, []⟩, pA.Value⟩] 1) _ = _
    unfold twin_Differ_b1
    rw [if_neg (by simp)]
    rfl
  unfold L_twinned
  rw [show (⟨([97] : Str), (⟨(1 : Int), false, (0 : Int), []⟩ : ValueS)⟩ : PropS) = pA from rfl, hd]
  rfl
end Go.Beacon
