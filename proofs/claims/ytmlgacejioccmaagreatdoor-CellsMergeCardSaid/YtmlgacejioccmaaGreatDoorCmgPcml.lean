/- CellsMerge: the law. No program in sight. -/
import Derived.Test.YtmlgacejioccmaaGreatDoorCmgPcmm
set_option linter.unusedVariables false
set_option linter.unusedSimpArgs false
namespace Go.Beacon
open Go Go.Eng

theorem ceq_selfM (l : List Cell) (h : l.length ≤ 100000) : slices_Equal_Cell_Cell l l = some true := by
  rw [show slices_Equal_Cell_Cell l l = some (decide (l = l)) from gEqual_eq _ _ (by omega)]; simp
def doR (r1 r2 m : Int) (a b : List Cell) : List Cell × Int := if orL [r1, r2, m] ≠ 0 then ([], orL [r1, r2, m]) else mgR (jn a b)
theorem orL_zero3 {x y z : Int} (h : ¬ orL [x, y, z] ≠ 0) : x = 0 ∧ y = 0 ∧ z = 0 := by
  rw [orL3, orL2] at h
  by_cases h1 : x = 0
  · by_cases h2 : y = 0
    · subst h1; subst h2
      simp at h
      exact ⟨rfl, rfl, h⟩
    · subst h1
      simp [h2] at h
  · simp [h1] at h
theorem doR_len {r1 r2 m : Int} {a b : List Cell} (hl : a.length + b.length ≤ 1000) (h1 : r1 = 0 → SId cN a) (h2 : r2 = 0 → SId cN b) : (doR r1 r2 m a b).1.length ≤ 100000 := by
  unfold doR
  by_cases h : orL [r1, r2, m] ≠ 0
  · rw [if_pos h]; simp
  · rw [if_neg h]
    obtain ⟨e1, e2, _⟩ := orL_zero3 h
    rcases jn_spec _ a b (Nat.le_refl _) (h1 e1) (h2 e2) with ⟨j1, _⟩ | ⟨r, j1, _, _, _, j5⟩
    · rw [j1]; simp [mgR]
    · rw [j1]
      unfold mgR
      simp only
      split
      · simp
      · simp only; omega
theorem do_eq (a b : List Cell) (r1 r2 m : Int) (ha : CL a) (hb : CL b) (hl : a.length + b.length < 20) (h1 : r1 = 0 → SId cN a) (h2 : r2 = 0 → SId cN b) (hf : Q_CellsFault b = some r2) : L_CellsMerge_1x_c3x0x b m r1 a = some (doR r1 r2 m a b) := by
  unfold L_CellsMerge_1x_c3x0x
  rw [hf]
  simp only [Option.bind_some]
  rw [show L_errs [r1, r2, m] = some (orL [r1, r2, m]) from gOr_eq _ (by simp)]
  simp only [Option.bind_some]
  unfold doR
  by_cases h : orL [r1, r2, m] ≠ 0
  · rw [if_pos h, if_pos h]
  · rw [if_neg h, if_neg h]
    obtain ⟨e1, e2, _⟩ := orL_zero3 h
    rw [MergeOf_eq a b ha hb hl (h1 e1) (h2 e2)]; rfl
theorem Merge_eqM (a b : List Cell) (r1 r2 : Int) (hl : a.length + b.length < 20) (c1 : twin_CheckCells a = some r1) (c2 : twin_CheckCells b = some r2) : twin_Merge a b = some (doR r1 r2 0 a b) := by
  unfold twin_Merge
  rw [c1, c2]
  simp only [Option.bind_some]
  rw [First_eq _ (by simp)]
  simp only [Option.bind_some]
  unfold doR
  have e : orL [r1, r2, 0] = orL [r1, r2] := by
    rw [orL3]
    split
    · rfl
    · rename_i h; exact (Classical.not_not.1 h).symm
  rw [e]
  by_cases h : orL [r1, r2] ≠ 0
  · rw [if_pos h, if_pos h]
  · rw [if_neg h, if_neg h, merged_eq a b (by omega)]; rfl
theorem Set_eqM (a : List Cell) (p : PropS) (t : Stamp) (r1 r2 : Int) (hl : a.length + 1 < 20) (c1 : twin_CheckCells a = some r1) (c2 : twin_CheckCells [⟨p, t⟩] = some r2) : twin_Set a p t = some (doR r1 r2 (L_when (decide (p.Value.Kind = 0)) 4) a [⟨p, t⟩]) := by
  unfold twin_Set
  rw [c1, c2]
  simp only [Option.bind_some]
  rw [First_eq _ (by simp)]
  simp only [Option.bind_some]
  unfold doR
  rw [orL3]
  by_cases h : orL [r1, r2] ≠ 0
  · rw [if_pos h, if_pos h, if_pos h]
  · rw [if_neg h, if_neg h]
    unfold L_when
    by_cases hk : p.Value.Kind = 0
    · rw [if_pos hk, decide_eq_true hk, if_pos rfl, if_pos (by simp)]
    · rw [if_neg hk, decide_eq_false hk, if_neg (by simp), merged_eq a _ (by simp; omega)]; rfl
theorem CellsMerge_plain (L : List Int) : L_CellsMerge L = some true := by
  have key : Ok (L_CellsMerge L) (fun r => r = true) := by
    unfold L_CellsMerge
    refine Ok.gen (Cells_k (K := 1000) ⟨by simp, by simp⟩ (by omega)) (fun a s1 ha q1 => ?_)
    refine Ok.gen (Cells_k q1 (by omega)) (fun b s2 hb q2 => ?_)
    refine Ok.gen (PropName_k q2 (by omega)) (fun n s3 hn q3 => ?_)
    refine Ok.gen (Value_k q3 (by omega)) (fun v s4 hv q4 => ?_)
    refine Ok.gen (Stamp_k q4 (by omega)) (fun t s5 ht q5 => ?_)
    dsimp only
    have hA := ha.cl (by omega)
    have hB := hb.cl (by omega)
    have hal := ha.1
    have hbl := hb.1
    have hX : CL [⟨⟨n, v⟩, t⟩] := ⟨by simp, fun c hc => by
      rw [List.mem_singleton] at hc; subst hc
      exact ⟨by unfold cN; simp only; omega, by simp only; omega, ht.1, ht.2⟩⟩
    have hY : CL [⟨⟨n, ⟨0, false, 0, []⟩⟩, t⟩] := ⟨by simp, fun c hc => by
      rw [List.mem_singleton] at hc; subst hc
      exact ⟨by unfold cN; simp only; omega, by simp, ht.1, ht.2⟩⟩
    obtain ⟨r1, a1, a2, a3⟩ := CheckCells_eq a hA
    obtain ⟨r2, b1, b2, b3⟩ := CheckCells_eq b hB
    obtain ⟨r3, x1, x2, x3⟩ := CheckCells_eq _ hX
    obtain ⟨r4, y1, y2, y3⟩ := CheckCells_eq _ hY
    have sa : r1 = 0 → SId cN a := fun h => (a3 h).1
    have sb : r2 = 0 → SId cN b := fun h => (b3 h).1
    have sx : r3 = 0 → SId cN [⟨⟨n, v⟩, t⟩] := fun h => (x3 h).1
    have sy : r4 = 0 → SId cN [⟨⟨n, ⟨0, false, 0, []⟩⟩, t⟩] := fun h => (y3 h).1
    have hC : twin_Clear a n t = some (doR r1 r4 0 a [⟨⟨n, ⟨0, false, 0, []⟩⟩, t⟩]) := by
      unfold twin_Clear
      rw [Merge_eqM a _ r1 r4 (by simp; omega) a1 y1]; rfl
    rw [Merge_eqM a b r1 r2 (by omega) a1 b1, Set_eqM a ⟨n, v⟩ t r1 r3 (by omega) a1 x1, hC, a2, a1]
    simp only [Option.bind_some]
    rw [if_neg (by simp), do_eq a b r1 r2 0 hA hB (by omega) sa sb b2, do_eq a _ r1 r3 _ hA hX (by simp; omega) sa sx x2, do_eq a _ r1 r4 0 hA hY (by simp; omega) sa sy y2]
    simp only [Option.bind_some]
    simp only [if_true]
    rw [ceq_selfM _ (doR_len (by omega) sa sb)]
    simp only [Option.bind_some, if_true]
    rw [ceq_selfM _ (doR_len (by simp; omega) sa sx)]
    simp only [Option.bind_some, if_true]
    rw [ceq_selfM _ (doR_len (by simp; omega) sa sy)]
    simp only [Option.bind_some, if_true]
    rw [twinned_eq]
    exact ⟨true, rfl, rfl⟩
  obtain ⟨r, h1, rfl⟩ := key
  exact h1
end Go.Beacon
