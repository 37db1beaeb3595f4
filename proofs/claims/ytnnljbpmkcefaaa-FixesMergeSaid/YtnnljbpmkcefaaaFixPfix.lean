/- The law FixesMerge as a plain statement. No program in sight. -/
import Derived.Test.YtnnljbpmkcefaaaFixPnum
import Derived.Test.YtnnljbpmkcefaaaPmrg
set_option linter.unusedVariables false
set_option linter.unusedSimpArgs false
namespace Go.Beacon
open Go Go.Eng

def FixB (x : Fix) : Prop := -4398046511104 ≤ x.At ∧ x.At ≤ 4398046511104
def fixC (a b : Fix) : Int := if Lib.compareBytes a.Device b.Device ≠ 0 then Lib.compareBytes a.Device b.Device else cmpI a.At b.At
theorem fixC_3 : Cmp3 fixC := (cmpB_3.on Fix.Device).lex (cmpI_3.on Fix.At)
theorem fbyDevice_eq (a b : Fix) : place_byDevice a b = some (fixC a b) := by
  unfold place_byDevice
  rw [CompareI_eq]
  have h : cmp_Or_int [Lib.compareBytes a.Device b.Device, cmpI a.At b.At] = some (orL [Lib.compareBytes a.Device b.Device, cmpI a.At b.At]) := gOr_eq _ (by simp)
  rw [h, orL2]; rfl
theorem FixOrder_eq (a b : Fix) (h : -9223372036854775808 ≤ a.At - b.At ∧ a.At - b.At ≤ 9223372036854775807) : Q_FixOrder a b = fixC a b := by
  unfold Q_FixOrder fixC
  rw [w64_in h.1 h.2]
  have e : Q_sign (a.At - b.At) = cmpI a.At b.At := by
    unfold Q_sign cmpI
    repeat' split
    all_goals omega
  rw [e]
  by_cases h1 : a.Device = b.Device
  · rw [h1, cmpB_self]; simp
  · rw [if_pos h1, if_pos (fun h => h1 (cmpB_zero h))]
theorem forder_B {xs : List Fix} (hB : ∀ x ∈ xs, FixB x) : ∀ x ∈ xs, ∀ y ∈ xs, Q_FixOrder x y = fixC x y := fun x hx y hy => by
  have h1 := hB x hx; have h2 := hB y hy
  unfold FixB at h1 h2
  exact FixOrder_eq x y (by omega)
/-! sorting and compacting -/
def ZF : Fix := ⟨[], 0, 0, 0, 0⟩
theorem fstable_len (f : Fix → Fix → Option Int) (xs : List Fix) (hl : (xs.length : Int) < 20) (hf : ∀ x ∈ xs, ∀ y ∈ xs, f x y = some (fixC x y)) : ∃ Z, lenOk xs.length (fun r : List Fix => r.length) (slices_SortStableFunc_Fix_Fix xs f) = some Z ∧ Z.Perm xs ∧ Srt fixC Z := by
  obtain ⟨Z, h1, h2, h3⟩ := gIns_eq f fixC xs (by omega) hf (fixC_3.ord xs)
  have h1' : slices_insertionSortCmpFunc_Fix xs 0 xs.length f = some Z := h1
  have hlen := h2.length_eq
  refine ⟨Z, ?_, h2, h3⟩
  have hs : slices_stableCmpFunc_Fix xs xs.length f = some Z := by
    unfold slices_stableCmpFunc_Fix slices_stableCmpFunc_Fix_l1
    rw [iter_eq, slices_stableCmpFunc_Fix_b1, if_neg (by simp only; omega), map_inr_after]
    unfold slices_stableCmpFunc_Fix_k3
    simp only
    rw [len_ok h1' hlen]
    simp only [Option.bind_some]
    unfold slices_stableCmpFunc_Fix_l2
    rw [iter_eq, slices_stableCmpFunc_Fix_b2, if_neg (by simp only; omega), map_inr_after]
  refine len_ok ?_ hlen
  unfold slices_SortStableFunc_Fix_Fix
  rw [len_ok hs hlen]; rfl
theorem fcompact_eq (xs : List Fix) (hl : (xs.length : Int) ≤ 100000) : slices_Compact_Fix_Fix xs = some (dd eqB xs) := gCpt_eq ZF xs hl
theorem fcompactF_eq (f : Fix → Fix → Option Bool) (e : Fix → Fix → Bool) (xs : List Fix) (hl : (xs.length : Int) ≤ 100000) (hf : ∀ x ∈ xs, ∀ y ∈ xs, f x y = some (e x y)) : slices_CompactFunc_Fix_Fix xs f = some (dd e xs) := gCptF_eq ZF f e xs hl hf
theorem fdelete_eq (f : Fix → Option Bool) (p : Fix → Bool) (xs : List Fix) (hl : (xs.length : Int) ≤ 100000) (hf : ∀ x ∈ xs, f x = some (p x)) : slices_DeleteFunc_Fix_Fix xs f = some (xs.filter (fun x => !p x)) := gDel_eq ZF f p xs hl hf
theorem fclone_eq (xs : List Fix) (hl : (xs.length : Int) ≤ 100000) : slices_Clone_Fix_Fix xs = some xs := by
  unfold slices_Clone_Fix_Fix; rw [app_le (by simp; omega)]; simp
theorem fgrow_eq {n : Int} (h0 : 0 ≤ n) (h1 : n ≤ 100000) : slices_Grow_Fix_Fix_n0x n = some [] := by
  unfold slices_Grow_Fix_Fix_n0x slices_Grow_Fix_Fix_n0x_j1
  rw [show w64 (0 - 0) = 0 by decide, show n - 0 = n by omega, w64_in (by omega) (by omega), if_neg (by omega)]
  by_cases h : 0 < n
  · rw [if_pos h, slc_in (by omega) (by omega) (by simp)]
    unfold mkS
    rw [if_pos (by omega)]
    simp only [Option.bind_some]
    rw [slc_in (by omega) (by omega) (by omega)]
    simp
  · rw [if_neg h]
theorem fconcat_eq (a b : List Fix) (ha : (a.length : Int) ≤ 1000) (hb : (b.length : Int) ≤ 1000) : slices_Concat_Fix_Fix [a, b] = some (a ++ b) := by
  have i0 : idx [a, b] 0 = some a := rfl
  have i1 : idx [a, b] 1 = some b := rfl
  have u0 : w64 (0 + 1) = 1 := by decide
  have u1 : w64 (1 + 1) = 2 := by decide
  unfold slices_Concat_Fix_Fix slices_Concat_Fix_Fix_l1
  rw [iter_eq, slices_Concat_Fix_Fix_b1, if_pos (by simp), i0]
  simp only [Option.bind_some]
  rw [show (0 : Int) + (a.length : Int) = a.length by omega, w64_in (by omega) (by omega), if_neg (by omega), u0]
  simp only [Option.bind_some, after_inl]
  rw [iter_eq, slices_Concat_Fix_Fix_b1, if_pos (by simp), i1]
  simp only [Option.bind_some]
  rw [w64_in (by omega) (by omega), if_neg (by omega), u1]
  simp only [Option.bind_some, after_inl]
  rw [iter_eq, slices_Concat_Fix_Fix_b1, if_neg (by simp), map_inr_after]
  unfold slices_Concat_Fix_Fix_k1
  simp only
  rw [fgrow_eq (by omega) (by omega)]
  simp only [Option.bind_some]
  unfold slices_Concat_Fix_Fix_l2
  rw [iter_eq, slices_Concat_Fix_Fix_b2, if_pos (by simp), i0]
  simp only [Option.bind_some]
  rw [app_le (by simp; omega), u0]
  simp only [Option.bind_some, after_inl]
  rw [iter_eq, slices_Concat_Fix_Fix_b2, if_pos (by simp), i1]
  simp only [Option.bind_some]
  rw [app_le (by simp; omega), u1]
  simp only [Option.bind_some, after_inl]
  rw [iter_eq, slices_Concat_Fix_Fix_b2, if_neg (by simp), map_inr_after]
  simp
/-! what is drawn -/
theorem Fixes_j1_ok {v : Bool} {s : Stm} {xs : List Fix} {k m : Int} (hs : SOk s (k + 7)) (hk : 0 ≤ k) (hm : m ≤ 1000) (hx : (xs.length : Int) ≤ m ∧ ∀ x ∈ xs, FixB x) : Gen (Stream_Fixes_j1 (v, s) xs) k (fun xs => (xs.length : Int) ≤ m ∧ ∀ x ∈ xs, FixB x) := by
  unfold Stream_Fixes_j1
  split
  · rename_i hpos
    refine Gen.bind (Flip_ok (k := k + 6) (hs.less (by omega)) (by omega) (by omega) (by omega)) (fun c s1 hc hs1 => ?_)
    unfold Stream_Fixes_j2 Stream_Fixes_j3
    simp only
    split
    · refine Gen.bind (Next_ok (k := k + 5) (hs1.less (by omega)) (by omega) (by omega) (by omega)) (fun i s2 hi hs2 => ?_)
      obtain ⟨y, hy, hym, _⟩ := idx_lt xs hi.1 hi.2
      have hyB := hx.2 y hym
      simp only [hy, Option.bind_some]
      refine Gen.bind (Some_ok (k := k + 4) (hs2.less (by omega)) (by simp) (by simp) (by omega)) (fun d s3 hd hs3 => ?_)
      refine Gen.bind (Odd_ok (k := k + 2) (hs3.less (by omega)) (by omega) (by omega) (by omega) (by omega)) (fun u s4 hu hs4 => ?_)
      refine Gen.bind (Odd_ok (k := k) (hs4.less (by omega)) (by omega) (by omega) (by omega) (by omega)) (fun t s5 ht hs5 => ?_)
      refine Gen.ret ⟨by simp only [List.length_set]; exact hx.1, ?_⟩ hs5
      unfold FixB at hyB
      refine inset (inset (inset hx.2 ?_) ?_) ?_ <;> unfold FixB <;> simp only <;> omega
    · exact Gen.ret hx (hs1.less (by omega))
  · unfold Stream_Fixes_j2 Stream_Fixes_j3
    rw [if_neg (by simp)]
    exact Gen.ret hx (hs.less (by omega))
theorem Fixes_k4_ok {l6 : List Int} {n7 : Int} {xs : List Fix} {k m : Int} (hs : SOk ⟨l6, n7⟩ (k + 8)) (hk : 0 ≤ k) (hm : m < 20) (hx : (xs.length : Int) ≤ m ∧ ∀ x ∈ xs, FixB x) : Gen (Stream_Fixes_k4 l6 n7 xs) k (fun xs => (xs.length : Int) ≤ m ∧ ∀ x ∈ xs, FixB x) := by
  unfold Stream_Fixes_k4
  have hxl := hx.1
  obtain ⟨Z, h1, h2, h3⟩ := fstable_len (fun y0 y1 => some (Q_FixOrder y0 y1)) xs (by omega) (fun x hx' y hy => by rw [forder_B hx.2 x hx' y hy])
  rw [h1]
  simp only [Option.bind_some]
  have hZ : (Z.length : Int) ≤ m ∧ ∀ x ∈ Z, FixB x := ⟨by rw [h2.length_eq]; exact hx.1, fun x hx' => hx.2 x (h2.mem_iff.1 hx')⟩
  refine Gen.bind (Flip_ok (k := k + 7) (hs.less (by omega)) (by omega) (by omega) (by omega)) (fun c s1 hc hs1 => ?_)
  simp only
  split
  · have hc : slices_CompactFunc_Fix_Fix Z (fun y0 y1 => some (Stream_Fixes_1x y0 y1)) = some (dd (fun a b => Stream_Fixes_1x a b) Z) :=
      fcompactF_eq _ _ Z (by omega) (fun x hx y hy => rfl)
    rw [hc]
    simp only [Option.bind_some]
    have hl := dd_len (fun a b => Stream_Fixes_1x a b) Z
    exact Fixes_j1_ok hs1 hk (by omega) ⟨by omega, fun x hx => hZ.2 x ((dd_sub _ Z).subset hx)⟩
  · exact Fixes_j1_ok hs1 hk (by omega) hZ
theorem Fixes_loop (many : Int) (hm : many < 20) : ∀ (n : Nat) (l6 : List Int) (n7 : Int) (xs : List Fix) (i k : Int), 0 ≤ i → i + n = many → SOk ⟨l6, n7⟩ (k + 8 + 4 * n) → 0 ≤ k → (xs.length : Int) = i → (∀ x ∈ xs, FixB x) → Gen (Stream_Fixes_l1 many l6 n7 xs i) k (fun xs => (xs.length : Int) ≤ many ∧ ∀ x ∈ xs, FixB x) := by
  intro n
  induction n with
  | zero =>
    intro l6 n7 xs i k h0 h1 hs hk hl hB
    unfold Stream_Fixes_l1
    rw [iter_eq, Stream_Fixes_b1, if_neg (by simp only; omega), map_inr_after]
    exact Fixes_k4_ok (hs.less (by omega)) hk hm ⟨by simp only; omega, hB⟩
  | succ n ih =>
    intro l6 n7 xs i k h0 h1 hs hk hl hB
    have w1 : w64 (i + 1) = i + 1 := by rw [w64_in] <;> omega
    unfold Stream_Fixes_l1 at ih ⊢
    rw [iter_eq, Stream_Fixes_b1, if_pos (by simp only; omega)]
    obtain ⟨d, s1, e1, p1, q1⟩ := Some_ok (s := ⟨l6, n7⟩) (l := [([100] : Str), ([100] : Str), ([101] : Str)]) (k := k + 8 + 4 * n + 3) (hs.less (by omega)) (by simp) (by simp) (by omega)
    simp only [e1, Option.bind_some]
    obtain ⟨m, s2, e2, p2, q2⟩ := Pick_ok (s := s1) (l := [(0 : Int), (1 : Int), (5 : Int), (10 : Int)]) (k := k + 8 + 4 * n + 2) (q1.less (by omega)) (by simp) (by simp) (by omega)
    simp only [e2, Option.bind_some]
    obtain ⟨u, s3, e3, p3, q3⟩ := Pick_ok (s := s2) (l := [(0 : Int), (1 : Int)]) (k := k + 8 + 4 * n + 1) (q2.less (by omega)) (by simp) (by simp) (by omega)
    simp only [e3, Option.bind_some]
    obtain ⟨t, s4, e4, p4, q4⟩ := Pick_ok (s := s3) (l := [(0 : Int), (1 : Int), (2 : Int)]) (k := k + 8 + 4 * n) (q3.less (by omega)) (by simp) (by simp) (by omega)
    simp only [e4, Option.bind_some]
    have b1 := pick_le (lo := 0) (hi := 10) p2 (by decide)
    rw [app_le (by simp; omega)]
    simp only [Option.bind_some, after_inl, w1]
    refine ih s4.L s4.at_ _ (i + 1) k (by omega) (by omega) (q4.less (by omega)) hk (by simp; omega) ?_
    intro x hxm
    rcases List.mem_append.1 hxm with h | h
    · exact hB x h
    · simp only [List.mem_singleton] at h
      subst h
      unfold FixB
      simp only; omega
theorem Fixes_ok {s : Stm} {many k : Int} (hs : SOk s (k + 8 + 4 * many)) (hm : 0 ≤ many ∧ many < 20) (hk : 0 ≤ k) : Gen (Stream_Fixes s many) k (fun xs => (xs.length : Int) ≤ many ∧ ∀ x ∈ xs, FixB x) := by
  unfold Stream_Fixes
  exact Fixes_loop many hm.2 many.toNat s.L s.at_ [] 0 k (by omega) (by omega) (by rw [show ((many.toNat : Nat) : Int) = many by omega]; exact hs) hk (by simp) (by simp)
/-! the checks -/
def spotX (x y : Int) : Bool := (decide (-10000 ≤ x) && decide (x ≤ 10000)) && (decide (-10000 ≤ y) && decide (y ≤ 10000))
def fbad (s : Fix) : Bool := !(decide (0 ≤ s.At) && decide (s.At ≤ 345686399999)) || (!spotX s.X s.Y || (decide (s.Error < 0) || decide (10000 < s.Error)))
def fixStep (prev : Option Fix) (s : Fix) : Int :=
  if keyB s.Device = false then 5 else if fbad s = true then 1 else match prev with
  | none => 0
  | some p => if fixC s p ≤ 0 then 7 else 0
def chkX (xs : List Fix) : Int := if (2000 : Int) < xs.length then 2 else scanC fixStep none xs
theorem CheckFixes_eq (xs : List Fix) : place_CheckFixes xs = some (chkX xs) := by
  unfold place_CheckFixes chkX
  split
  · rfl
  · rename_i hl
    unfold place_CheckFixes_l1
    refine scan_all fixStep xs _ (fun {i s} h0 h1 hs => ?_) (by show place_CheckFixes_b1 xs _ = _; rw [place_CheckFixes_b1, if_neg (by omega)]; rfl)
    show place_CheckFixes_b1 xs i = _
    rw [place_CheckFixes_b1, if_pos h1, hs]
    simp only [Option.bind_some, Key_eq]
    unfold place_CheckFixes_j1 place_CheckFixes_j2 fixStep
    have e : ((!base_Moment s.At) || (!(place_isSpot (place_spot s)) || base_Out s.Error 0 10000)) = fbad s := by
      unfold fbad spotX place_isSpot place_isSpot_j1 place_spot
      rw [Moment_eq, Out_eq, Out_eq, Out_eq, Bool.eq_iff_iff]
      simp
    rw [e, w64_in (x := i + 1) (by omega) (by omega)]
    cases hk : keyB s.Device
    · simp
    · simp only [Bool.not_true, Bool.false_eq_true, if_false, Bool.true_eq_false]
      split
      · rfl
      · by_cases hi : 0 < i
        · obtain ⟨p, hp, _, _⟩ := idx_lt xs (i := i - 1) (by omega) (by omega)
          have hpa : prevOf xs i = some p := by unfold prevOf; rw [if_neg (by omega), hp]
          rw [hpa, if_pos hi, w64_in (by omega) (by omega), hp]
          simp only [Option.bind_some, fbyDevice_eq]
          by_cases hb : fixC s p ≤ 0
          · simp [hb]
          · simp [hb]
        · have hpa : prevOf xs i = none := by unfold prevOf; rw [if_pos (by omega)]
          rw [hpa, if_neg hi]; rfl
theorem FixesFault_eq (xs : List Fix) (hB : ∀ x ∈ xs, FixB x) : Q_FixesFault xs = some (chkX xs) := by
  unfold Q_FixesFault chkX
  split
  · rfl
  · rename_i hl
    unfold Q_FixesFault_l1
    refine scan_all fixStep xs _ (fun {i s} h0 h1 hs => ?_) (by show Q_FixesFault_b1 xs _ = _; rw [Q_FixesFault_b1, if_neg (by omega)]; rfl)
    show Q_FixesFault_b1 xs i = _
    rw [Q_FixesFault_b1, if_pos h1, hs]
    simp only [Option.bind_some, QKey_eq]
    unfold Q_FixesFault_j1 Q_FixesFault_j2 fixStep
    have e : ((!Q_Moment s.At) || ((decide (Q_SpotFault (Q_spotOf s) ≠ 0)) || !(Q_in s.Error 0 10000))) = fbad s := by
      unfold fbad spotX Q_SpotFault Q_SpotFault_j1 Q_spotOf
      rw [QMoment_eq, Qin_eq, Qin_eq, Qin_eq, Bool.eq_iff_iff]
      simp
      repeat' split
      all_goals simp_all
      all_goals omega
    rw [e, w64_in (x := i + 1) (by omega) (by omega)]
    cases hk : keyB s.Device
    · simp
    · simp only [Bool.not_true, Bool.false_eq_true, if_false, Bool.true_eq_false]
      split
      · rfl
      · by_cases hi : 0 < i
        · obtain ⟨p, hp, hpm, _⟩ := idx_lt xs (i := i - 1) (by omega) (by omega)
          have hpa : prevOf xs i = some p := by unfold prevOf; rw [if_neg (by omega), hp]
          rw [hpa, if_pos hi, w64_in (by omega) (by omega), hp]
          simp only [Option.bind_some]
          rw [forder_B hB p hpm s (idx_mem hs), fixC_3.neg p s]
          by_cases hb : fixC s p ≤ 0
          · rw [decide_eq_true (by omega)]; simp [hb]
          · rw [decide_eq_false (by omega)]; simp [hb]
        · have hpa : prevOf xs i = none := by unfold prevOf; rw [if_pos (by omega)]
          rw [hpa, if_neg hi]; rfl
/-! Merge -/
theorem fmerge_loop (v : List Fix) (hl : (v.length : Int) ≤ 2000) (hB : ∀ x ∈ v, FixB x) : ∀ (n : Nat) (i : Int), 1 ≤ i → (v.length : Int) ≤ i + n → i ≤ 2001 →
    place_Merge_l1 v i = some (if adjC fixC (v.drop (i - 1).toNat) = true then ([], 13) else (v, 0)) ∧ Q_FixesOf_l1 v i = some (if adjC fixC (v.drop (i - 1).toNat) = true then ([], 13) else (v, 0)) := by
  intro n
  induction n with
  | zero =>
    intro i h0 h1 h2
    unfold place_Merge_l1 Q_FixesOf_l1
    have hi : ¬ i < v.length := by omega
    have hl' : ¬ (2000 : Int) < v.length := by omega
    rw [adjC_end _ h0 hi]
    simp only [Bool.false_eq_true, if_false]
    constructor
    · rw [iter_eq, place_Merge_b1, if_neg hi, map_inr_after, place_Merge_k1, if_neg hl']
    · rw [iter_eq, Q_FixesOf_b1, if_neg hi, map_inr_after, Q_FixesOf_k2, if_neg hl']
  | succ n ih =>
    intro i h0 h1 h2
    by_cases hi : i < v.length
    · obtain ⟨x, y, hx, hy, hxm, hym, hd, hd'⟩ := two_in h0 hi
      have w1 : w64 (i - 1) = i - 1 := by rw [w64_in] <;> omega
      have w2 : w64 (i + 1) = i + 1 := by rw [w64_in] <;> omega
      obtain ⟨r1, r2⟩ := ih (i + 1) (by omega) (by omega) (by omega)
      rw [show i + 1 - 1 = i by omega, hd'] at r1 r2
      unfold place_Merge_l1 at r1 ⊢
      unfold Q_FixesOf_l1 at r2 ⊢
      rw [iter_eq, place_Merge_b1, if_pos hi, iter_eq, Q_FixesOf_b1, if_pos hi, if_pos (show (0 : Int) < i by omega), hd]
      simp only [w1, hx, hy, Option.bind_some, fbyDevice_eq, forder_B hB x hxm y hym, adjC]
      unfold Q_FixesOf_j1
      rw [w2]
      by_cases hc : fixC x y = 0
      · simp [hc]
      · simp only [hc, if_false, decide_false, Bool.false_eq_true, Bool.false_or, Option.bind_some, after_inl]
        exact ⟨r1, r2⟩
    · unfold place_Merge_l1 Q_FixesOf_l1
      have hl' : ¬ (2000 : Int) < v.length := by omega
      rw [adjC_end _ h0 hi]
      simp only [Bool.false_eq_true, if_false]
      constructor
      · rw [iter_eq, place_Merge_b1, if_neg hi, map_inr_after, place_Merge_k1, if_neg hl']
      · rw [iter_eq, Q_FixesOf_b1, if_neg hi, map_inr_after, Q_FixesOf_k2, if_neg hl']
theorem fmerge_res (v : List Fix) (hl : (v.length : Int) ≤ 2000) (hB : ∀ x ∈ v, FixB x) : place_Merge_l1 v 1 = some (mresC fixC 13 v) ∧ Q_FixesOf_l1 v 0 = some (mresC fixC 13 v) := by
  obtain ⟨r1, r2⟩ := fmerge_loop v hl hB v.length 1 (by omega) (by omega) (by omega)
  refine ⟨r1, ?_⟩
  unfold Q_FixesOf_l1 at r2 ⊢
  rw [iter_eq, Q_FixesOf_b1]
  by_cases h : (0 : Int) < v.length
  · rw [if_pos h, if_neg (by omega)]
    unfold Q_FixesOf_j1
    rw [if_neg (by simp), show w64 (0 + 1) = 1 by decide]
    simp only [Option.bind_some, after_inl]
    exact r2
  · rw [if_neg h, map_inr_after]
    unfold Q_FixesOf_k2
    rw [if_neg (by omega)]
    have : v = [] := List.eq_nil_of_length_eq_zero (by omega)
    rw [this]; rfl
theorem fmerge_law (a b : List Fix) (hA : ∀ x ∈ a, FixB x) (hB : ∀ x ∈ b, FixB x) (hl : (a.length : Int) ≤ 9 ∧ (b.length : Int) ≤ 9) : ∃ t : List Fix × Int, place_Merge a b = some t ∧ (t.1.length : Int) ≤ 6000 ∧ (if orL [chkX a, chkX b] = 0 then Q_FixesOf a b = some t else t = ([], orL [chkX a, chkX b])) := by
  unfold place_Merge
  rw [CheckFixes_eq, CheckFixes_eq]
  simp only [Option.bind_some]
  rw [First_eq _ (by simp)]
  simp only [Option.bind_some]
  by_cases h : orL [chkX a, chkX b] = 0
  · have hAB : ∀ x ∈ a ++ b, FixB x := fun x hx => by
      rcases List.mem_append.1 hx with h | h
      · exact hA x h
      · exact hB x h
    have hlen : ((a ++ b).length : Int) < 20 := by simp; omega
    obtain ⟨X, x1, x2, x3⟩ := fstable_len (fun y0 y1 => place_byDevice y0 y1) (a ++ b) hlen (fun x _ y _ => fbyDevice_eq x y)
    obtain ⟨Y, y1, y2, y3⟩ := fstable_len (fun y0 y1 => some (Q_FixOrder y0 y1)) (a ++ b) hlen (fun x hx' y hy => by rw [forder_B hAB x hx' y hy])
    have hXl := x2.length_eq; have hYl := y2.length_eq
    have dX := dd_len eqB X; have dY := dd_len eqB Y
    have rX := fmerge_res (dd eqB X) (by omega) (fun x hx => hAB x (x2.mem_iff.1 ((dd_sub eqB X).subset hx)))
    have rY := fmerge_res (dd eqB Y) (by omega) (fun x hx => hAB x (y2.mem_iff.1 ((dd_sub eqB Y).subset hx)))
    simp only [h, ne_eq, not_true_eq_false, if_false, if_true]
    unfold Q_FixesOf
    rw [fconcat_eq a b (by omega) (by omega)]
    simp only [Option.bind_some, x1, y1]
    rw [fcompact_eq X (by omega), fcompact_eq Y (by omega)]
    simp only [Option.bind_some]
    rw [rX.1, rY.2, mergedC fixC_3 13 (x2.trans y2.symm) x3 y3]
    refine ⟨_, rfl, ?_, rfl⟩
    unfold mresC
    split
    · simp
    · simp only; omega
  · simp only [h, ne_eq, not_false_eq_true, if_true, if_false]
    exact ⟨_, rfl, by simp, rfl⟩
/-! Of -/
theorem fof_loop (xs : List Fix) (d : Str) (hl : (xs.length : Int) ≤ 5000) : ∀ (n : Nat) (acc : List Fix) (i : Int), 0 ≤ i → i + n = xs.length → (acc.length : Int) ≤ i → place_Of_l1 xs d acc i = some (acc ++ (xs.drop i.toNat).filter (fun s => decide (s.Device = d)), 0) := by
  intro n
  induction n with
  | zero =>
    intro acc i h0 h1 h2
    unfold place_Of_l1
    rw [iter_eq, place_Of_b1, if_neg (by simp only; omega), map_inr_after, List.drop_of_length_le (by omega)]
    simp
  | succ n ih =>
    intro acc i h0 h1 h2
    obtain ⟨x, hx, hxm, hd⟩ := idx_lt xs h0 (by omega)
    have w1 : w64 (i + 1) = i + 1 := by rw [w64_in] <;> omega
    unfold place_Of_l1 at ih ⊢
    rw [iter_eq, place_Of_b1, if_pos (by simp only; omega), hd]
    simp only [hx, Option.bind_some]
    unfold place_Of_j1
    rw [w1]
    by_cases hc : x.Device = d
    · rw [if_pos hc, app_le (by simp; omega)]
      simp only [Option.bind_some, after_inl]
      rw [ih _ (i + 1) (by omega) (by omega) (by simp; omega)]
      simp [hc]
    · rw [if_neg hc]
      simp only [Option.bind_some, after_inl]
      rw [ih _ (i + 1) (by omega) (by omega) (by omega)]
      simp [hc]
theorem fdel_eq (xs : List Fix) (d : Str) (hl : (xs.length : Int) ≤ 5000) : slices_DeleteFunc_Fix_Fix xs (fun y0 => some (L_FixesMerge_1x y0 d)) = some (xs.filter (fun s => decide (s.Device = d))) := by
  have h : slices_DeleteFunc_Fix_Fix xs (fun y0 => some (L_FixesMerge_1x y0 d)) = _ := fdelete_eq _ (fun s => L_FixesMerge_1x s d) xs (by omega) (fun x _ => rfl)
  rw [h]
  simp only [Option.some.injEq]
  congr 1
  funext s
  unfold L_FixesMerge_1x
  by_cases h1 : s.Device = d <;> simp [h1]
def eF (a : List Fix) (d : Str) : Int := orL [chkX a, if keyB d = true then 0 else 5]
theorem fof_law (a : List Fix) (d : Str) (hl : (a.length : Int) ≤ 9) : place_Of a d = some (if eF a d = 0 then (a.filter (fun s => decide (s.Device = d)), 0) else ([], eF a d)) := by
  unfold place_Of eF
  rw [CheckFixes_eq, orL2]
  simp only [Option.bind_some, Key_eq]
  by_cases h1 : chkX a = 0
  · simp only [h1, ne_eq, not_true_eq_false, if_false]
    cases hd : keyB d with
    | true =>
      simp only [Bool.not_true, Bool.false_eq_true, if_false, if_true]
      rw [fof_loop a d (by omega) a.length [] 0 (by omega) (by omega) (by simp)]
      simp
    | false => simp
  · simp only [h1, ne_eq, not_false_eq_true, if_true, if_false]
theorem placed_eq : L_placed = some true := by
  have hc : place_Cell ⟨0, 0⟩ 1 = some ([51], 0) := by
    unfold place_Cell
    have e : ((!(place_isSpot (⟨0, 0⟩ : Spot))) || base_Out 1 0 15) = false := by
      unfold place_isSpot place_isSpot_j1
      simp only [Out_eq]; decide
    rw [e]
    unfold place_Cell_j1
    rw [if_neg (by simp)]
    unfold place_Cell_l1
    rw [iter_eq, place_Cell_b1, if_pos (by decide), w64_in (by decide) (by decide), w64_in (by decide) (by decide), quo_pos (by decide) (by decide) (by decide)]
    simp only [Option.bind_some]
    rw [app_le (by simp)]
    simp only [Option.bind_some, after_inl]
    rw [iter_eq, place_Cell_b1, if_neg (by decide), map_inr_after]
    decide
  unfold L_placed L_placed_j1
  rw [hc]
  decide
/-! the law -/
theorem ffin_ok (t u : List Fix × Int) (h1 : (t.1.length : Int) ≤ 6000) (h2 : (u.1.length : Int) ≤ 6000) : L_FixesMerge_j4 t u u.2 t.2 t.1 u.1 = some true := by
  unfold L_FixesMerge_j4 L_FixesMerge_j5
  have q1 : slices_Equal_Fix_Fix t.1 t.1 = some (decide (t.1 = t.1)) := gEqual_eq t.1 t.1 (by omega)
  have q2 : slices_Equal_Fix_Fix u.1 u.1 = some (decide (u.1 = u.1)) := gEqual_eq u.1 u.1 (by omega)
  simp only [q1, q2, if_true, Option.bind_some, decide_true, placed_eq]
theorem flaw_j2 (a b : List Fix) (s3 : Stm) (d : Str) (s8 : Stm) (hA : (a.length : Int) ≤ 9 ∧ ∀ x ∈ a, FixB x) (hB : (b.length : Int) ≤ 9 ∧ ∀ x ∈ b, FixB x) : L_FixesMerge_j2 (a, s3) (d, s8) b = some true := by
  unfold L_FixesMerge_j2
  obtain ⟨t, ht, htl, htq⟩ := fmerge_law a b hA.2 hB.2 ⟨hA.1, hB.1⟩
  have hE2 : ∀ x y : Int, L_errs [x, y] = some (orL [x, y]) := fun x y => gOr_eq _ (by simp)
  have hw : orL [chkX a, L_when (!keyB d) 5] = eF a d := by
    unfold eF L_when
    cases keyB d <;> rfl
  simp only [ht, fof_law a d hA.1, FixesFault_eq a hA.2, FixesFault_eq b hB.2, CheckFixes_eq, QKey_eq, hE2, hw, Option.bind_some]
  rw [if_neg (by simp)]
  generalize hu : (if eF a d = 0 then (a.filter (fun s => decide (s.Device = d)), (0 : Int)) else ([], eF a d)) = u
  have hul : (u.1.length : Int) ≤ 6000 := by
    rw [← hu]
    have := List.length_filter_le (fun s : Fix => decide (s.Device = d)) a
    split
    · simp only; omega
    · simp
  have hu2 : u.2 = eF a d := by
    rw [← hu]
    split
    · rename_i h; rw [h]
    · rfl
  have j3 : ∀ (e : Int) (l : List Fix), L_FixesMerge_j3 (a, s3) (d, s8) t u (eF a d) e l = L_FixesMerge_j4 t u u.2 e l u.1 := by
    intro e l
    unfold L_FixesMerge_j3
    by_cases h : eF a d = 0
    · rw [if_pos h, hu2]
      rw [if_pos h] at hu
      simp only [fclone_eq a (by omega), fdel_eq a d (by omega), Option.bind_some]
      rw [← hu]
    · rw [if_neg h, hu2]
      rw [if_neg h] at hu
      rw [← hu]
  by_cases h : orL [chkX a, chkX b] = 0
  · rw [if_pos h] at htq ⊢
    rw [htq]
    simp only [Option.bind_some]
    rw [j3]
    exact ffin_ok t u htl hul
  · rw [if_neg h] at htq ⊢
    rw [j3]
    have e1 : t.2 = orL [chkX a, chkX b] := by rw [htq]
    have e2 : t.1 = [] := by rw [htq]
    rw [← e1, ← e2]
    exact ffin_ok t u htl hul
theorem FixesMerge_plain (l : List Int) : L_FixesMerge l = some true := by
  unfold L_FixesMerge
  refine Gen.use (Range_ok (k := 300) ⟨by simp, by simp⟩ (by omega) (by omega) (by omega) (by omega)) (fun n1 s1 hn1 hs1 => ?_)
  refine Gen.use (Fixes_ok (k := 200) (hs1.less (by simp only; omega)) (by simp only; omega) (by omega)) (fun a s2 ha hs2 => ?_)
  refine Gen.use (Range_ok (k := 199) (hs2.less (by omega)) (by omega) (by omega) (by omega) (by omega)) (fun n2 s3 hn2 hs3 => ?_)
  refine Gen.use (Fixes_ok (k := 100) (hs3.less (by simp only; omega)) (by simp only; omega) (by omega)) (fun b s4 hb hs4 => ?_)
  refine Gen.use (Some_ok (k := 99) (hs4.less (by omega)) (by simp) (by simp) (by omega)) (fun d s5 hd hs5 => ?_)
  have hA : (a.length : Int) ≤ 9 ∧ ∀ x ∈ a, FixB x := ⟨by have := ha.1; simp only at this; omega, ha.2⟩
  have hB : (b.length : Int) ≤ 9 ∧ ∀ x ∈ b, FixB x := ⟨by have := hb.1; simp only at this; omega, hb.2⟩
  simp only
  split
  · rename_i hpos
    refine Gen.use (Flip_ok (k := 98) (hs5.less (by omega)) (by omega) (by omega) (by omega)) (fun c s6 hc hs6 => ?_)
    unfold L_FixesMerge_j1
    simp only
    split
    · refine Gen.use (Next_ok (k := 97) (hs6.less (by omega)) (by omega) (by omega) (by omega)) (fun i s7 hi hs7 => ?_)
      rw [slc_in hi.1 (by omega) (by omega)]
      simp only [Option.bind_some]
      have hsub : (((a.drop i.toNat).take (((a.length : Int)).toNat - i.toNat)).length : Int) ≤ 9 ∧ ∀ x ∈ (a.drop i.toNat).take (((a.length : Int)).toNat - i.toNat), FixB x :=
        ⟨by have := hA.1; simp; omega, fun x hx => hA.2 x (List.mem_of_mem_drop (List.mem_of_mem_take hx))⟩
      rw [fclone_eq _ (by omega)]
      simp only [Option.bind_some]
      exact flaw_j2 a _ s2 d s5 hA hsub
    · exact flaw_j2 a b s2 d s5 hA hB
  · unfold L_FixesMerge_j1
    rw [if_neg (by simp)]
    exact flaw_j2 a b s2 d s5 hA hB
end Go.Beacon
