/- Fixes: their order, the checks of the program and of the reference. No program in sight. -/
import Derived.Test.YtfplpihogacmaaaTraPnum
import Derived.Test.YtfplpihogacmaaaPmrg
set_option linter.unusedVariables false
set_option linter.unusedSimpArgs false
namespace Go.Beacon
open Go Go.Eng

def FixB (x : Fix) : Prop := -4398046511104 ≤ x.At ∧ x.At ≤ 4398046511104
def fixC (a b : Fix) : Int := if Lib.compareBytes a.Device b.Device ≠ 0 then Lib.compareBytes a.Device b.Device else cmpI a.At b.At
theorem fixC_3 : Cmp3 fixC := (cmpB_3.on Fix.Device).lex (cmpI_3.on Fix.At)
theorem fbyDevice_eq (a b : Fix) : place_byDevice a b = some (fixC a b) := by
  unfold place_byDevice
  rw [CompareI_eq]
  have h : cmp_Or_int [Lib.compareBytes a.Device b.Device, cmpI a.At b.At] = some (orL [Lib.compareBytes a.Device b.Device, cmpI a.At b.At]) := gOr_eq _ (by simp)
  rw [h, orL2]; rfl
theorem FixOrder_eq (a b : Fix) (h : -9223372036854775808 ≤ a.At - b.At ∧ a.At - b.At ≤ 9223372036854775807) : Q_FixOrder a b = fixC a b := by
  unfold Q_FixOrder fixC
  rw [w64_in h.1 h.2]
  have e : Q_sign (a.At - b.At) = cmpI a.At b.At := by
    unfold Q_sign cmpI
    repeat' split
    all_goals omega
  rw [e]
  by_cases h1 : a.Device = b.Device
  · rw [h1, cmpB_self]; simp
  · rw [if_pos h1, if_pos (fun h => h1 (cmpB_zero h))]
theorem forder_B {xs : List Fix} (hB : ∀ x ∈ xs, FixB x) : ∀ x ∈ xs, ∀ y ∈ xs, Q_FixOrder x y = fixC x y := fun x hx y hy => by
  have h1 := hB x hx; have h2 := hB y hy
  unfold FixB at h1 h2
  exact FixOrder_eq x y (by omega)
/-! the checks -/
def spotX (x y : Int) : Bool := (decide (-10000 ≤ x) && decide (x ≤ 10000)) && (decide (-10000 ≤ y) && decide (y ≤ 10000))
def fbad (s : Fix) : Bool := !(decide (0 ≤ s.At) && decide (s.At ≤ 345686399999)) || (!spotX s.X s.Y || (decide (s.Error < 0) || decide (10000 < s.Error)))
def fixStep (prev : Option Fix) (s : Fix) : Int :=
  if keyB s.Device = false then 5 else if fbad s = true then 1 else match prev with
  | none => 0
  | some p => if fixC s p ≤ 0 then 7 else 0
def chkX (xs : List Fix) : Int := if (2000 : Int) < xs.length then 2 else scanC fixStep none xs
theorem CheckFixes_eq (xs : List Fix) : place_CheckFixes xs = some (chkX xs) := by
  unfold place_CheckFixes chkX
  split
  · rfl
  · rename_i hl
    unfold place_CheckFixes_l1
    refine scan_all fixStep xs _ (fun {i s} h0 h1 hs => ?_) (by show place_CheckFixes_b1 xs _ = _; rw [place_CheckFixes_b1, if_neg (by omega)]; rfl)
    show place_CheckFixes_b1 xs i = _
    rw [place_CheckFixes_b1, if_pos h1, hs]
    simp only [Option.bind_some, Key_eq]
    unfold place_CheckFixes_j1 place_CheckFixes_j2 fixStep
    have e : ((!base_Moment s.At) || (!(place_isSpot (place_spot s)) || base_Out s.Error 0 10000)) = fbad s := by
      unfold fbad spotX place_isSpot place_isSpot_j1 place_spot
      rw [Moment_eq, Out_eq, Out_eq, Out_eq, Bool.eq_iff_iff]
      simp
    rw [e, w64_in (x := i + 1) (by omega) (by omega)]
    cases hk : keyB s.Device
    · simp
    · simp only [Bool.not_true, Bool.false_eq_true, if_false, Bool.true_eq_false]
      split
      · rfl
      · by_cases hi : 0 < i
        · obtain ⟨p, hp, _, _⟩ := idx_lt xs (i := i - 1) (by omega) (by omega)
          have hpa : prevOf xs i = some p := by unfold prevOf; rw [if_neg (by omega), hp]
          rw [hpa, if_pos hi, w64_in (by omega) (by omega), hp]
          simp only [Option.bind_some, fbyDevice_eq]
          by_cases hb : fixC s p ≤ 0
          · simp [hb]
          · simp [hb]
        · have hpa : prevOf xs i = none := by unfold prevOf; rw [if_pos (by omega)]
          rw [hpa, if_neg hi]; rfl
theorem FixesFault_eq (xs : List Fix) (hB : ∀ x ∈ xs, FixB x) : Q_FixesFault xs = some (chkX xs) := by
  unfold Q_FixesFault chkX
  split
  · rfl
  · rename_i hl
    unfold Q_FixesFault_l1
    refine scan_all fixStep xs _ (fun {i s} h0 h1 hs => ?_) (by show Q_FixesFault_b1 xs _ = _; rw [Q_FixesFault_b1, if_neg (by omega)]; rfl)
    show Q_FixesFault_b1 xs i = _
    rw [Q_FixesFault_b1, if_pos h1, hs]
    simp only [Option.bind_some, QKey_eq]
    unfold Q_FixesFault_j1 Q_FixesFault_j2 fixStep
    have e : ((!Q_Moment s.At) || ((decide (Q_SpotFault (Q_spotOf s) ≠ 0)) || !(Q_in s.Error 0 10000))) = fbad s := by
      unfold fbad spotX Q_SpotFault Q_SpotFault_j1 Q_spotOf
      rw [QMoment_eq, Qin_eq, Qin_eq, Qin_eq, Bool.eq_iff_iff]
      simp
      repeat' split
      all_goals simp_all
      all_goals omega
    rw [e, w64_in (x := i + 1) (by omega) (by omega)]
    cases hk : keyB s.Device
    · simp
    · simp only [Bool.not_true, Bool.false_eq_true, if_false, Bool.true_eq_false]
      split
      · rfl
      · by_cases hi : 0 < i
        · obtain ⟨p, hp, hpm, _⟩ := idx_lt xs (i := i - 1) (by omega) (by omega)
          have hpa : prevOf xs i = some p := by unfold prevOf; rw [if_neg (by omega), hp]
          rw [hpa, if_pos hi, w64_in (by omega) (by omega), hp]
          simp only [Option.bind_some]
          rw [forder_B hB p hpm s (idx_mem hs), fixC_3.neg p s]
          by_cases hb : fixC s p ≤ 0
          · rw [decide_eq_true (by omega)]; simp [hb]
          · rw [decide_eq_false (by omega)]; simp [hb]
        · have hpa : prevOf xs i = none := by unfold prevOf; rw [if_pos (by omega)]
          rw [hpa, if_neg hi]; rfl
end Go.Beacon
