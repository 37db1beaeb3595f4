/- CellsSeen: the law. No program in sight. -/
import Derived.Test.YtmlgacejioccmaaGreatDoorCsePvis
set_option linter.unusedVariables false
set_option linter.unusedSimpArgs false
namespace Go.Beacon
open Go Go.Eng

theorem ceq_self (l : List Cell) (h : l.length ≤ 100000) : slices_Equal_Cell_Cell l l = some true := by
  rw [show slices_Equal_Cell_Cell l l = some (decide (l = l)) from gEqual_eq _ _ (by omega)]; simp
theorem peq_self (l : List PropS) (h : l.length ≤ 100000) : slices_Equal_Prop_Prop l l = some true := by
  rw [show slices_Equal_Prop_Prop l l = some (decide (l = l)) from gEqual_eq _ _ (by omega)]; simp
theorem cerrs2 (x y : Int) : L_errs [x, y] = some (orL [x, y]) := gOr_eq _ (by simp)
theorem cs_j3 (v : List PropS) (c : List Cell) (p q : Int) (hv : v.length ≤ 100000) (hc : c.length ≤ 100000) : L_CellsSeen_j3 (v, p) (c, q) p q v c = some true := by
  unfold L_CellsSeen_j3
  rw [if_pos rfl, peq_self v hv]
  simp only [Option.bind_some, if_true]
  rw [ceq_self c hc]
  simp only [Option.bind_some, if_true]
  rw [twinned_eq]
  rfl
theorem CellsSeen_plain (L : List Int) : L_CellsSeen L = some true := by
  have key : Ok (L_CellsSeen L) (fun r => r = true) := by
    unfold L_CellsSeen
    refine Ok.gen (Cells_k (K := 1000) ⟨by simp, by simp⟩ (by omega)) (fun a s1 ha q1 => ?_)
    refine Ok.gen (Pick_k q1 (by omega) (by simp) (by simp)) (fun t s2 _ q2 => ?_)
    dsimp only
    have hL := ha.cl (by omega)
    have hl := ha.1
    obtain ⟨r, c1, c2, _⟩ := CheckCells_eq a hL
    have hvl := flatC_len (visG a) (visG_len a) a
    have hcl : (cptL a t).length ≤ 1000 := by
      have h1 := flatC_len (leftG a t) (leftG_len a t) a
      have h2 := flatC_len (cptG (a.flatMap (leftG a t)) t) (cptG_len _ t) (a.flatMap (leftG a t))
      unfold cptL; omega
    have hV : twin_Visible a = some (if r ≠ 0 then ([], r) else (a.flatMap (visG a), 0)) := by
      unfold twin_Visible
      rw [c1]
      simp only [Option.bind_some]
      by_cases hr : r ≠ 0
      · rw [if_pos hr, if_pos hr]
      · rw [if_neg hr, if_neg hr, visible_eq a (by omega)]; rfl
    have hC : twin_Compact a t = some (if r ≠ 0 then ([], r) else if (base_Out t 0 345686400000) = true then ([], 1) else (cptL a t, 0)) := by
      unfold twin_Compact
      rw [c1]
      simp only [Option.bind_some]
      by_cases hr : r ≠ 0
      · rw [if_pos hr, if_pos hr]
      · rw [if_neg hr, if_neg hr]
        split
        · rfl
        · rw [Compact_l1 a (by omega) t]
    rw [hV, hC, c2]
    simp only [Option.bind_some]
    have fin : ∀ (x : Int) (V : List PropS × Int) (C : List Cell × Int), (r = 0 → V = (a.flatMap (visG a), 0)) → (r ≠ 0 → V = ([], r)) → (r = 0 → x = 0 → C = (cptL a t, 0)) → (r = 0 → x ≠ 0 → C = ([], x)) → (r ≠ 0 → C = ([], r)) → L_CellsSeen_j1 (a, s1) (t, s2) V C r (orL [r, x]) = some true := by
      intro x V C v1 v2 k1 k2 k3
      by_cases hr : r = 0
      · subst hr
        have e : orL [0, x] = x := by rw [orL2]; simp
        rw [e, v1 rfl]
        unfold L_CellsSeen_j1
        rw [if_pos rfl]
        dsimp only
        rw [VisibleOf_eq a hL]
        simp only [Option.bind_some]
        unfold L_CellsSeen_j2
        by_cases hx : x = 0
        · rw [k1 rfl hx, hx, if_pos rfl]
          dsimp only
          rw [CompactOf_eq a hL t]
          simp only [Option.bind_some]
          exact cs_j3 _ _ 0 0 (by omega) (by omega)
        · rw [k2 rfl hx, if_neg hx]
          exact cs_j3 _ _ 0 x (by omega) (by simp)
      · have e : orL [r, x] = r := by rw [orL2, if_pos hr]
        rw [e, v2 hr, k3 hr]
        unfold L_CellsSeen_j1 L_CellsSeen_j2
        rw [if_neg hr, if_neg hr]
        exact cs_j3 _ _ r r (by simp) (by simp)
    have fin2 : ∀ x : Int, (x = if (base_Out t 0 345686400000) = true then 1 else 0) → L_CellsSeen_j1 (a, s1) (t, s2) (if r ≠ 0 then ([], r) else (a.flatMap (visG a), 0)) (if r ≠ 0 then ([], r) else if (base_Out t 0 345686400000) = true then ([], 1) else (cptL a t, 0)) r (orL [r, x]) = some true := by
      intro x hx
      refine fin x _ _ (fun h => if_neg (by simpa using h)) (fun h => if_pos h) (fun h h0 => ?_) (fun h h0 => ?_) (fun h => if_pos h)
      · rw [if_neg (by simpa using h)]
        by_cases ho : (base_Out t 0 345686400000) = true
        · rw [if_pos ho] at hx; omega
        · rw [if_neg ho]
      · rw [if_neg (by simpa using h)]
        by_cases ho : (base_Out t 0 345686400000) = true
        · rw [if_pos ho] at hx; rw [if_pos ho, hx]
        · rw [if_neg ho] at hx; omega
    refine ⟨true, ?_, rfl⟩
    split
    · rename_i h
      rw [cerrs2]
      simp only [Option.bind_some]
      refine fin2 _ ?_
      rw [Out_eq, decide_eq_true h]; rfl
    · rename_i h
      rw [cerrs2]
      simp only [Option.bind_some]
      refine fin2 _ ?_
      rw [Out_eq, decide_eq_false h]
      unfold L_when
      simp
  obtain ⟨r, h1, rfl⟩ := key
  exact h1
end Go.Beacon
