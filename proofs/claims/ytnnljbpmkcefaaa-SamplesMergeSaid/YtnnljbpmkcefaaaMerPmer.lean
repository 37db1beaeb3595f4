/- Merging measurements: the order, sorting, compacting; what is drawn. No program in sight. -/
import Derived.Test.YtnnljbpmkcefaaaMerPnum
import Derived.Test.YtnnljbpmkcefaaaMerPmeas
import Derived.Test.YtnnljbpmkcefaaaPcpt
set_option linter.unusedVariables false
set_option linter.unusedSimpArgs false
namespace Go.Beacon
open Go Go.Eng

/-! the order -/
theorem cmpB_trans : ∀ {a b c : List UInt8}, Lib.compareBytes a b < 0 → Lib.compareBytes b c < 0 → Lib.compareBytes a c < 0
  | [], [], c, h1, h2 => by simp [Lib.compareBytes] at h1
  | [], _ :: _, [], h1, h2 => by simp [Lib.compareBytes] at h2
  | [], _ :: _, _ :: _, h1, h2 => by simp [Lib.compareBytes]
  | _ :: _, [], c, h1, h2 => by simp [Lib.compareBytes] at h1
  | _ :: _, _ :: _, [], h1, h2 => by simp [Lib.compareBytes] at h2
  | a :: la, b :: lb, c :: lc, h1, h2 => by
    simp only [Lib.compareBytes] at h1 h2 ⊢
    rcases u8_tri a b with h | h | h
    · rcases u8_tri b c with k | k | k
      · rw [if_pos (UInt8.lt_trans h k)]; omega
      · subst k; rw [if_pos h]; omega
      · rw [if_neg (u8_asymm k), if_pos k] at h2; omega
    · subst h
      rcases u8_tri a c with k | k | k
      · rw [if_pos k]; omega
      · subst k
        rw [if_neg (by simp), if_neg (by simp)] at h1 h2 ⊢
        exact cmpB_trans h1 h2
      · rw [if_neg (u8_asymm k), if_pos k] at h2; omega
    · rw [if_neg (u8_asymm h), if_pos h] at h1; omega
theorem byDev_lt (a b : Sample) : byDev a b < 0 ↔ Lib.compareBytes a.Device b.Device < 0 ∨ (a.Device = b.Device ∧ (Lib.compareBytes a.Metric b.Metric < 0 ∨ (a.Metric = b.Metric ∧ a.At < b.At))) := by
  unfold byDev
  simp only [orL]
  by_cases h1 : Lib.compareBytes a.Device b.Device = 0
  · have e1 := cmpB_zero h1
    by_cases h2 : Lib.compareBytes a.Metric b.Metric = 0
    · have e2 := cmpB_zero h2
      simp only [h1, h2, e1, e2, cmpB_self, ne_eq, not_true_eq_false, if_false, true_and, Int.lt_irrefl, false_or]
      unfold cmpI
      by_cases h3 : a.At < b.At
      · simp [h3]
      · by_cases h4 : b.At < a.At <;> simp [h3, h4]
    · have n2 : a.Metric ≠ b.Metric := fun h => h2 (by rw [h, cmpB_self])
      simp [h1, h2, e1, n2, cmpB_self]
  · have n1 : a.Device ≠ b.Device := fun h => h1 (by rw [h, cmpB_self])
    simp [h1, n1]
theorem byDev_zero (a b : Sample) : byDev a b = 0 ↔ a.Device = b.Device ∧ a.Metric = b.Metric ∧ a.At = b.At := by
  constructor
  · intro h
    unfold byDev at h
    simp only [orL] at h
    by_cases h1 : Lib.compareBytes a.Device b.Device = 0
    · by_cases h2 : Lib.compareBytes a.Metric b.Metric = 0
      · refine ⟨cmpB_zero h1, cmpB_zero h2, ?_⟩
        simp only [h1, h2, ne_eq, not_true_eq_false, if_false] at h
        unfold cmpI at h
        by_cases h3 : a.At < b.At
        · simp [h3] at h
        · by_cases h4 : b.At < a.At
          · simp [h3, h4] at h
          · omega
      · simp [h1, h2] at h
    · simp [h1] at h
  · rintro ⟨h1, h2, h3⟩
    rw [byDev_same h1 h2, h3]
    unfold cmpI; simp
theorem byDev_trans {a b c : Sample} (h1 : byDev a b < 0) (h2 : byDev b c < 0) : byDev a c < 0 := by
  rw [byDev_lt] at *
  rcases h1 with h1 | ⟨e1, h1⟩
  · rcases h2 with h2 | ⟨e2, h2⟩
    · exact .inl (cmpB_trans h1 h2)
    · rw [e2] at h1; exact .inl h1
  · rw [e1]
    rcases h2 with h2 | ⟨e2, h2⟩
    · exact .inl h2
    · refine .inr ⟨e2, ?_⟩
      rcases h1 with h1 | ⟨m1, h1⟩
      · rcases h2 with h2 | ⟨m2, h2⟩
        · exact .inl (cmpB_trans h1 h2)
        · rw [m2] at h1; exact .inl h1
      · rw [m1]
        rcases h2 with h2 | ⟨m2, h2⟩
        · exact .inl h2
        · exact .inr ⟨m2, by omega⟩
theorem byDev_congr {a a' b : Sample} (h : byDev a a' = 0) : (byDev a b < 0 ↔ byDev a' b < 0) ∧ (byDev b a < 0 ↔ byDev b a' < 0) := by
  obtain ⟨h1, h2, h3⟩ := (byDev_zero a a').1 h
  rw [byDev_lt, byDev_lt, byDev_lt, byDev_lt, h1, h2, h3]
  exact ⟨Iff.rfl, Iff.rfl⟩
theorem byDev_ord (xs : List Sample) : Ord3 byDev xs := by
  refine ⟨fun x _ h => ?_, fun x _ y _ z _ h1 h2 => byDev_trans h1 h2, fun x _ y _ z _ h1 h2 h3 => ?_⟩
  · have := (byDev_zero x x).2 ⟨rfl, rfl, rfl⟩; omega
  · have n1 := byDev_neg x y
    have n2 := byDev_neg y z
    by_cases h4 : byDev x y = 0
    · exact h2 ((byDev_congr h4).1.1 h3)
    · have : byDev y x < 0 := by omega
      exact h2 (byDev_trans this h3)

/-! sorting and compacting -/
def Z0 : Sample := ⟨[], [], 0, 0⟩
theorem stable_eq (f : Sample → Sample → Option Int) (xs : List Sample) (hl : (xs.length : Int) < 20) (hf : ∀ x ∈ xs, ∀ y ∈ xs, f x y = some (byDev x y)) : ∃ Z, slices_SortStableFunc_Sample_Sample xs f = some Z ∧ Z.Perm xs ∧ Srt byDev Z := by
  obtain ⟨Z, h1, h2, h3⟩ := gIns_eq f byDev xs (by omega) hf (byDev_ord xs)
  have h1' : slices_insertionSortCmpFunc_Sample xs 0 xs.length f = some Z := h1
  have hlen := h2.length_eq
  refine ⟨Z, ?_, h2, h3⟩
  have hs : slices_stableCmpFunc_Sample xs xs.length f = some Z := by
    unfold slices_stableCmpFunc_Sample slices_stableCmpFunc_Sample_l1
    rw [iter_eq, slices_stableCmpFunc_Sample_b1, if_neg (by simp only; omega), map_inr_after]
    unfold slices_stableCmpFunc_Sample_k3
    simp only
    rw [h1']
    unfold lenOk
    simp only [Option.bind_some]
    rw [if_pos hlen]
    simp only [Option.bind_some]
    unfold slices_stableCmpFunc_Sample_l2
    rw [iter_eq, slices_stableCmpFunc_Sample_b2, if_neg (by simp only; omega), map_inr_after]
  unfold slices_SortStableFunc_Sample_Sample
  rw [hs]
  unfold lenOk
  simp only [Option.bind_some]
  rw [if_pos hlen]; rfl
theorem stable_len (f : Sample → Sample → Option Int) (xs : List Sample) (hl : (xs.length : Int) < 20) (hf : ∀ x ∈ xs, ∀ y ∈ xs, f x y = some (byDev x y)) : ∃ Z, lenOk xs.length (fun r : List Sample => r.length) (slices_SortStableFunc_Sample_Sample xs f) = some Z ∧ Z.Perm xs ∧ Srt byDev Z := by
  obtain ⟨Z, h1, h2, h3⟩ := stable_eq f xs hl hf
  refine ⟨Z, ?_, h2, h3⟩
  rw [h1]; unfold lenOk
  simp only [Option.bind_some]
  rw [if_pos h2.length_eq]
theorem sort_len (f : Sample → Sample → Option Int) (xs : List Sample) (hl : (xs.length : Int) < 20) (hf : ∀ x ∈ xs, ∀ y ∈ xs, f x y = some (byDev x y)) : ∃ Z, lenOk xs.length (fun r : List Sample => r.length) (slices_SortFunc_Sample_Sample xs f) = some Z ∧ Z.Perm xs ∧ Srt byDev Z := by
  obtain ⟨Z, h1, h2, h3⟩ := sortO_eq f byDev xs (by omega) hf (byDev_ord xs)
  have h1' : slices_SortFunc_Sample_Sample xs f = some Z := h1
  refine ⟨Z, ?_, h2, h3⟩
  rw [h1']; unfold lenOk
  simp only [Option.bind_some]
  rw [if_pos h2.length_eq]
theorem compact_eq (xs : List Sample) (hl : (xs.length : Int) ≤ 100000) : slices_Compact_Sample_Sample xs = some (dd eqB xs) := gCpt_eq Z0 xs hl
theorem compactF_eq (f : Sample → Sample → Option Bool) (e : Sample → Sample → Bool) (xs : List Sample) (hl : (xs.length : Int) ≤ 100000) (hf : ∀ x ∈ xs, ∀ y ∈ xs, f x y = some (e x y)) : slices_CompactFunc_Sample_Sample xs f = some (dd e xs) := gCptF_eq Z0 f e xs hl hf
theorem delete_eq (f : Sample → Option Bool) (p : Sample → Bool) (xs : List Sample) (hl : (xs.length : Int) ≤ 100000) (hf : ∀ x ∈ xs, f x = some (p x)) : slices_DeleteFunc_Sample_Sample xs f = some (xs.filter (fun x => !p x)) := gDel_eq Z0 f p xs hl hf
theorem clone_eq (xs : List Sample) (hl : (xs.length : Int) ≤ 100000) : slices_Clone_Sample_Sample xs = some xs := by
  unfold slices_Clone_Sample_Sample; rw [app_le (by simp; omega)]; simp
theorem grow_eq {n : Int} (h0 : 0 ≤ n) (h1 : n ≤ 100000) : slices_Grow_Sample_Sample_n0x n = some [] := by
  unfold slices_Grow_Sample_Sample_n0x slices_Grow_Sample_Sample_n0x_j1
  rw [show w64 (0 - 0) = 0 by decide, show n - 0 = n by omega, w64_in (by omega) (by omega), if_neg (by omega)]
  by_cases h : 0 < n
  · rw [if_pos h, slc_in (by omega) (by omega) (by simp)]
    unfold mkS
    rw [if_pos (by omega)]
    simp only [Option.bind_some]
    rw [slc_in (by omega) (by omega) (by omega)]
    simp
  · rw [if_neg h]
theorem concat_eq (a b : List Sample) (ha : (a.length : Int) ≤ 1000) (hb : (b.length : Int) ≤ 1000) : slices_Concat_Sample_Sample [a, b] = some (a ++ b) := by
  have i0 : idx [a, b] 0 = some a := rfl
  have i1 : idx [a, b] 1 = some b := rfl
  have u0 : w64 (0 + 1) = 1 := by decide
  have u1 : w64 (1 + 1) = 2 := by decide
  unfold slices_Concat_Sample_Sample slices_Concat_Sample_Sample_l1
  rw [iter_eq, slices_Concat_Sample_Sample_b1, if_pos (by simp), i0]
  simp only [Option.bind_some]
  rw [show (0 : Int) + (a.length : Int) = a.length by omega, w64_in (by omega) (by omega), if_neg (by omega), u0]
  simp only [Option.bind_some, after_inl]
  rw [iter_eq, slices_Concat_Sample_Sample_b1, if_pos (by simp), i1]
  simp only [Option.bind_some]
  rw [w64_in (by omega) (by omega), if_neg (by omega), u1]
  simp only [Option.bind_some, after_inl]
  rw [iter_eq, slices_Concat_Sample_Sample_b1, if_neg (by simp), map_inr_after]
  unfold slices_Concat_Sample_Sample_k1
  simp only
  rw [grow_eq (by omega) (by omega)]
  simp only [Option.bind_some]
  unfold slices_Concat_Sample_Sample_l2
  rw [iter_eq, slices_Concat_Sample_Sample_b2, if_pos (by simp), i0]
  simp only [Option.bind_some]
  rw [app_le (by simp; omega), u0]
  simp only [Option.bind_some, after_inl]
  rw [iter_eq, slices_Concat_Sample_Sample_b2, if_pos (by simp), i1]
  simp only [Option.bind_some]
  rw [app_le (by simp; omega), u1]
  simp only [Option.bind_some, after_inl]
  rw [iter_eq, slices_Concat_Sample_Sample_b2, if_neg (by simp), map_inr_after]
  simp
/-! what is drawn -/
theorem order_B {xs : List Sample} (hB : ∀ x ∈ xs, SampB x) : ∀ x ∈ xs, ∀ y ∈ xs, Q_SampleOrder x y = some (byDev x y) := fun x hx y hy => by
  have h1 := (hB x hx).1; have h2 := (hB y hy).1
  exact SampleOrder_eq x y (by omega)
theorem Samples_j1_ok {v : Bool} {s : Stm} {xs : List Sample} {k m : Int} (hs : SOk s (k + 7)) (hk : 0 ≤ k) (hm : m ≤ 1000) (hx : (xs.length : Int) ≤ m ∧ ∀ x ∈ xs, SampB x) : Gen (Stream_Samples_j1 (v, s) xs) k (fun xs => (xs.length : Int) ≤ m ∧ ∀ x ∈ xs, SampB x) := by
  unfold Stream_Samples_j1
  split
  · rename_i hpos
    refine Gen.bind (Flip_ok (k := k + 6) (hs.less (by omega)) (by omega) (by omega) (by omega)) (fun c s1 hc hs1 => ?_)
    unfold Stream_Samples_j2 Stream_Samples_j3
    simp only
    split
    · refine Gen.bind (Next_ok (k := k + 5) (hs1.less (by omega)) (by omega) (by omega) (by omega)) (fun i s2 hi hs2 => ?_)
      obtain ⟨y, hy, hym, _⟩ := idx_lt xs hi.1 hi.2
      have hyB := hx.2 y hym
      simp only [hy, Option.bind_some]
      refine Gen.bind (Some_ok (k := k + 4) (hs2.less (by omega)) (by simp) (by simp) (by omega)) (fun d s3 hd hs3 => ?_)
      refine Gen.bind (Odd_ok (k := k + 2) (hs3.less (by omega)) (by omega) (by omega) (by omega) (by omega)) (fun u s4 hu hs4 => ?_)
      refine Gen.bind (Odd_ok (k := k) (hs4.less (by omega)) (by omega) (by omega) (by omega) (by omega)) (fun t s5 ht hs5 => ?_)
      refine Gen.ret ⟨by simp only [List.length_set]; exact hx.1, ?_⟩ hs5
      refine mem_set_B (mem_set_B (mem_set_B hx.2 ⟨hyB.1, hyB.2⟩) ⟨by simp only; omega, hyB.2⟩) ⟨by simp only; omega, by simp only; omega⟩
    · exact Gen.ret hx (hs1.less (by omega))
  · unfold Stream_Samples_j2 Stream_Samples_j3
    rw [if_neg (by simp)]
    exact Gen.ret hx (hs.less (by omega))
theorem Samples_k4_ok {l6 : List Int} {n7 : Int} {xs : List Sample} {k m : Int} (hs : SOk ⟨l6, n7⟩ (k + 8)) (hk : 0 ≤ k) (hm : m < 20) (hx : (xs.length : Int) ≤ m ∧ ∀ x ∈ xs, SampB x) : Gen (Stream_Samples_k4 l6 n7 xs) k (fun xs => (xs.length : Int) ≤ m ∧ ∀ x ∈ xs, SampB x) := by
  unfold Stream_Samples_k4
  have hxl := hx.1
  obtain ⟨Z, h1, h2, h3⟩ := stable_len (fun y0 y1 => Q_SampleOrder y0 y1) xs (by omega) (order_B hx.2)
  rw [h1]
  simp only [Option.bind_some]
  have hZ : (Z.length : Int) ≤ m ∧ ∀ x ∈ Z, SampB x := ⟨by rw [h2.length_eq]; exact hx.1, fun x hx' => hx.2 x (h2.mem_iff.1 hx')⟩
  refine Gen.bind (Flip_ok (k := k + 7) (hs.less (by omega)) (by omega) (by omega) (by omega)) (fun c s1 hc hs1 => ?_)
  simp only
  split
  · have hc : slices_CompactFunc_Sample_Sample Z (fun y0 y1 => Stream_Samples_1x y0 y1) = some (dd (fun a b => decide (byDev a b = 0)) Z) :=
      compactF_eq _ (fun a b => decide (byDev a b = 0)) Z (by omega) (fun x hx y hy => by unfold Stream_Samples_1x; rw [order_B hZ.2 x hx y hy]; rfl)
    rw [hc]
    simp only [Option.bind_some]
    have hl := dd_len (fun a b => decide (byDev a b = 0)) Z
    exact Samples_j1_ok hs1 hk (by omega) ⟨by omega, fun x hx => hZ.2 x ((dd_sub _ Z).subset hx)⟩
  · exact Samples_j1_ok hs1 hk (by omega) hZ
theorem Samples_loop (many : Int) (hm : many < 20) : ∀ (n : Nat) (l6 : List Int) (n7 : Int) (xs : List Sample) (i k : Int), 0 ≤ i → i + n = many → SOk ⟨l6, n7⟩ (k + 8 + 4 * n) → 0 ≤ k → (xs.length : Int) = i → (∀ x ∈ xs, SampB x) → Gen (Stream_Samples_l1 many l6 n7 xs i) k (fun xs => (xs.length : Int) ≤ many ∧ ∀ x ∈ xs, SampB x) := by
  intro n
  induction n with
  | zero =>
    intro l6 n7 xs i k h0 h1 hs hk hl hB
    unfold Stream_Samples_l1
    rw [iter_eq, Stream_Samples_b1, if_neg (by simp only; omega), map_inr_after]
    exact Samples_k4_ok (hs.less (by omega)) hk hm ⟨by simp only; omega, hB⟩
  | succ n ih =>
    intro l6 n7 xs i k h0 h1 hs hk hl hB
    have w1 : w64 (i + 1) = i + 1 := by rw [w64_in] <;> omega
    unfold Stream_Samples_l1 at ih ⊢
    rw [iter_eq, Stream_Samples_b1, if_pos (by simp only; omega)]
    obtain ⟨d, s1, e1, p1, q1⟩ := Some_ok (s := ⟨l6, n7⟩) (l := [([100] : Str), ([100] : Str), ([101] : Str)]) (k := k + 8 + 4 * n + 3) (hs.less (by omega)) (by simp) (by simp) (by omega)
    simp only [e1, Option.bind_some]
    obtain ⟨m, s2, e2, p2, q2⟩ := Some_ok (s := s1) (l := [([109] : Str), ([109] : Str), ([110] : Str)]) (k := k + 8 + 4 * n + 2) (q1.less (by omega)) (by simp) (by simp) (by omega)
    simp only [e2, Option.bind_some]
    obtain ⟨u, s3, e3, p3, q3⟩ := Pick_ok (s := s2) (l := [(0 : Int), (1 : Int), (5 : Int), (10 : Int), (20 : Int)]) (k := k + 8 + 4 * n + 1) (q2.less (by omega)) (by simp) (by simp) (by omega)
    simp only [e3, Option.bind_some]
    obtain ⟨t, s4, e4, p4, q4⟩ := Pick_ok (s := s3) (l := [(1 : Int), (1 : Int), (2 : Int), (-3 : Int)]) (k := k + 8 + 4 * n) (q3.less (by omega)) (by simp) (by simp) (by omega)
    simp only [e4, Option.bind_some]
    have b1 := pick_le (lo := 0) (hi := 20) p3 (by decide)
    have b2 := pick_le (lo := -3) (hi := 2) p4 (by decide)
    rw [app_le (by simp; omega)]
    simp only [Option.bind_some, after_inl, w1]
    refine ih s4.L s4.at_ _ (i + 1) k (by omega) (by omega) (q4.less (by omega)) hk (by simp; omega) ?_
    intro x hxm
    rcases List.mem_append.1 hxm with h | h
    · exact hB x h
    · simp only [List.mem_singleton] at h
      subst h
      exact ⟨by simp only; omega, by simp only; omega⟩
theorem Samples_ok {s : Stm} {many k : Int} (hs : SOk s (k + 8 + 4 * many)) (hm : 0 ≤ many ∧ many < 20) (hk : 0 ≤ k) : Gen (Stream_Samples s many) k (fun xs => (xs.length : Int) ≤ many ∧ ∀ x ∈ xs, SampB x) := by
  unfold Stream_Samples
  exact Samples_loop many hm.2 many.toNat s.L s.at_ [] 0 k (by omega) (by omega) (by rw [show ((many.toNat : Nat) : Int) = many by omega]; exact hs) hk (by simp) (by simp)
end Go.Beacon
