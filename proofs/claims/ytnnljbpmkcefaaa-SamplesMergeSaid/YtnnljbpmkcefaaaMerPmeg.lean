/- The law SamplesMerge as a plain statement. No program in sight. -/
import Derived.Test.YtnnljbpmkcefaaaMerPmer
set_option linter.unusedVariables false
set_option linter.unusedSimpArgs false
namespace Go.Beacon
open Go Go.Eng

def hasAdj : List Sample → Bool
  | x :: y :: r => decide (byDev x y = 0) || hasAdj (y :: r)
  | _ => false
theorem adj_end {xs : List Sample} {i : Int} (h1 : 1 ≤ i) (h2 : ¬ i < xs.length) : hasAdj (xs.drop (i - 1).toNat) = false := by
  have : (xs.drop (i - 1).toNat).length ≤ 1 := by simp; omega
  match xs.drop (i - 1).toNat, this with
  | [], _ => rfl
  | [x], _ => rfl
theorem two_at {xs : List Sample} {i : Int} (h1 : 1 ≤ i) (h2 : i < xs.length) : ∃ x y, idx xs (i - 1) = some x ∧ idx xs i = some y ∧ x ∈ xs ∧ y ∈ xs ∧ xs.drop (i - 1).toNat = x :: y :: xs.drop (i + 1).toNat ∧ xs.drop i.toNat = y :: xs.drop (i + 1).toNat := by
  obtain ⟨x, hx, hxm, hd⟩ := idx_lt xs (i := i - 1) (by omega) (by omega)
  obtain ⟨y, hy, hym, hd'⟩ := idx_lt xs (i := i) (by omega) h2
  refine ⟨x, y, hx, hy, hxm, hym, ?_, hd'⟩
  rw [hd, show i - 1 + 1 = i by omega, hd']
def mres (v : List Sample) : List Sample × Int := if hasAdj v = true then ([], 13) else (v, 0)
theorem merge_loop (v : List Sample) (hl : (v.length : Int) ≤ 5000) (hB : ∀ x ∈ v, SampB x) : ∀ (n : Nat) (i : Int), 1 ≤ i → (v.length : Int) ≤ i + n → i ≤ 5001 →
    series_Merge_l1 v i = some (if hasAdj (v.drop (i - 1).toNat) = true then ([], 13) else (v, 0)) ∧ Q_SamplesOf_l1 v i = some (if hasAdj (v.drop (i - 1).toNat) = true then ([], 13) else (v, 0)) := by
  intro n
  induction n with
  | zero =>
    intro i h0 h1 h2
    unfold series_Merge_l1 Q_SamplesOf_l1
    have hi : ¬ i < v.length := by omega
    have hl' : ¬ (5000 : Int) < v.length := by omega
    rw [adj_end h0 hi]
    simp only [Bool.false_eq_true, if_false]
    constructor
    · rw [iter_eq, series_Merge_b1, if_neg hi, map_inr_after, series_Merge_k1, if_neg hl']
    · rw [iter_eq, Q_SamplesOf_b1, if_neg hi, map_inr_after, Q_SamplesOf_k2, if_neg hl']
  | succ n ih =>
    intro i h0 h1 h2
    by_cases hi : i < v.length
    · obtain ⟨x, y, hx, hy, hxm, hym, hd, hd'⟩ := two_at h0 hi
      have w1 : w64 (i - 1) = i - 1 := by rw [w64_in] <;> omega
      have w2 : w64 (i + 1) = i + 1 := by rw [w64_in] <;> omega
      obtain ⟨r1, r2⟩ := ih (i + 1) (by omega) (by omega) (by omega)
      rw [show i + 1 - 1 = i by omega, hd'] at r1 r2
      unfold series_Merge_l1 at r1 ⊢
      unfold Q_SamplesOf_l1 at r2 ⊢
      rw [iter_eq, series_Merge_b1, if_pos hi, iter_eq, Q_SamplesOf_b1, if_pos hi, if_pos (show (0 : Int) < i by omega), hd]
      simp only [w1, hx, hy, Option.bind_some, byDevice_eq, order_B hB x hxm y hym, hasAdj]
      unfold Q_SamplesOf_j1
      rw [w2]
      by_cases hc : byDev x y = 0
      · simp [hc]
      · simp only [hc, if_false, decide_false, Bool.false_eq_true, Bool.false_or, Option.bind_some, after_inl]
        exact ⟨r1, r2⟩
    · unfold series_Merge_l1 Q_SamplesOf_l1
      have hl' : ¬ (5000 : Int) < v.length := by omega
      rw [adj_end h0 hi]
      simp only [Bool.false_eq_true, if_false]
      constructor
      · rw [iter_eq, series_Merge_b1, if_neg hi, map_inr_after, series_Merge_k1, if_neg hl']
      · rw [iter_eq, Q_SamplesOf_b1, if_neg hi, map_inr_after, Q_SamplesOf_k2, if_neg hl']
theorem merge_res (v : List Sample) (hl : (v.length : Int) ≤ 5000) (hB : ∀ x ∈ v, SampB x) : series_Merge_l1 v 1 = some (mres v) ∧ Q_SamplesOf_l1 v 0 = some (mres v) := by
  obtain ⟨r1, r2⟩ := merge_loop v hl hB v.length 1 (by omega) (by omega) (by omega)
  refine ⟨r1, ?_⟩
  unfold Q_SamplesOf_l1 at r2 ⊢
  rw [iter_eq, Q_SamplesOf_b1]
  by_cases h : (0 : Int) < v.length
  · rw [if_pos h, if_neg (by omega)]
    unfold Q_SamplesOf_j1
    rw [if_neg (by simp), show w64 (0 + 1) = 1 by decide]
    simp only [Option.bind_some, after_inl]
    exact r2
  · rw [if_neg h, map_inr_after]
    unfold Q_SamplesOf_k2
    rw [if_neg (by omega)]
    have : v = [] := List.eq_nil_of_length_eq_zero (by omega)
    rw [this]; rfl
/-! the two sorted lists -/
theorem mem_ddA (x : Sample) : ∀ (p : Sample) (r : List Sample), x ∈ r → x = p ∨ x ∈ ddA eqB p r
  | _, [], h => by simp at h
  | p, y :: r, h => by
    simp only [ddA]
    by_cases hc : eqB y p = true
    · rw [if_pos hc]
      have hyp : y = p := by simpa [eqB] using hc
      rcases List.mem_cons.1 h with rfl | h
      · exact .inl hyp
      · rcases mem_ddA x y r h with h' | h'
        · exact .inl (h'.trans hyp)
        · exact .inr h'
    · rw [if_neg hc]
      rcases List.mem_cons.1 h with rfl | h
      · exact .inr (by simp)
      · rcases mem_ddA x y r h with h' | h'
        · exact .inr (by simp [h'])
        · exact .inr (by simp [h'])
theorem mem_dd {x : Sample} {xs : List Sample} (h : x ∈ xs) : x ∈ dd eqB xs := by
  cases xs with
  | nil => simp at h
  | cons y r =>
    simp only [dd]
    rcases List.mem_cons.1 h with rfl | h
    · simp
    · rcases mem_ddA x y r h with h' | h'
      · simp [h']
      · simp [h']
theorem strict_of : ∀ v : List Sample, Srt byDev v → hasAdj v = false → v.Pairwise (fun a b => byDev a b < 0)
  | [], _, _ => .nil
  | [x], _, _ => by simp
  | x :: y :: r, hs, ha => by
    simp only [hasAdj, Bool.or_eq_false_iff, decide_eq_false_iff_not] at ha
    have hs' := List.pairwise_cons.1 hs
    have ih := strict_of (y :: r) hs'.2 ha.2
    have hxy : byDev x y < 0 := by
      have h1 := hs'.1 y (by simp)
      have := byDev_neg x y
      have := ha.1
      omega
    refine List.pairwise_cons.2 ⟨fun z hz => ?_, ih⟩
    rcases List.mem_cons.1 hz with rfl | hz
    · exact hxy
    · exact byDev_trans hxy ((List.pairwise_cons.1 ih).1 z hz)
theorem srt_dd {xs : List Sample} (h : Srt byDev xs) : Srt byDev (dd eqB xs) := h.sublist (dd_sub eqB xs)
theorem conf_adj {xs : List Sample} (h : Srt byDev xs) {p q : Sample} (hp : p ∈ xs) (hq : q ∈ xs) (h0 : byDev p q = 0) (hne : p ≠ q) : hasAdj (dd eqB xs) = true := by
  cases hb : hasAdj (dd eqB xs) with
  | true => rfl
  | false =>
    have hs := strict_of _ (srt_dd h) hb
    have key : ∀ v : List Sample, v.Pairwise (fun a b => byDev a b < 0) → p ∈ v → q ∈ v → byDev p q < 0 ∨ byDev q p < 0 := by
      intro v
      induction v with
      | nil => intro _ h; simp at h
      | cons x r ih =>
        intro hv h1 h2
        have hv' := List.pairwise_cons.1 hv
        rcases List.mem_cons.1 h1 with e1 | h1
        · rcases List.mem_cons.1 h2 with e2 | h2
          · exact absurd (e1.trans e2.symm) hne
          · left; rw [e1]; exact hv'.1 q h2
        · rcases List.mem_cons.1 h2 with e2 | h2
          · right; rw [e2]; exact hv'.1 p h1
          · exact ih hv'.2 h1 h2
    have := byDev_neg p q
    rcases key _ hs (mem_dd hp) (mem_dd hq) with h | h <;> omega
theorem merged_same {X Y : List Sample} (hp : X.Perm Y) (hX : Srt byDev X) (hY : Srt byDev Y) : mres (dd eqB X) = mres (dd eqB Y) := by
  by_cases hc : ∃ p ∈ X, ∃ q ∈ X, byDev p q = 0 ∧ p ≠ q
  · obtain ⟨p, h1, q, h2, h3, h4⟩ := hc
    unfold mres
    rw [conf_adj hX h1 h2 h3 h4, conf_adj hY (hp.mem_iff.1 h1) (hp.mem_iff.1 h2) h3 h4]
    rfl
  · have : X = Y := srt_unique hp hX hY (fun a ha b hb h1 h2 => by
      have := byDev_neg a b
      have h0 : byDev a b = 0 := by omega
      by_cases hab : a = b
      · exact hab
      · exact absurd ⟨a, ha, b, hb, h0, hab⟩ hc)
    rw [this]
theorem merge_law (a b : List Sample) (hA : ∀ x ∈ a, SampB x) (hB : ∀ x ∈ b, SampB x) (hl : (a.length : Int) ≤ 9 ∧ (b.length : Int) ≤ 9) : ∃ t : List Sample × Int, series_Merge a b = some t ∧ (t.1.length : Int) ≤ 6000 ∧ (if orL [chk a, chk b] = 0 then Q_SamplesOf a b = some t else t = ([], orL [chk a, chk b])) := by
  unfold series_Merge
  rw [Check_eq, Check_eq]
  simp only [Option.bind_some]
  rw [First_eq _ (by simp)]
  simp only [Option.bind_some]
  by_cases h : orL [chk a, chk b] = 0
  · have hAB : ∀ x ∈ a ++ b, SampB x := fun x hx => by
      rcases List.mem_append.1 hx with h | h
      · exact hA x h
      · exact hB x h
    have hlen : ((a ++ b).length : Int) < 20 := by simp; omega
    obtain ⟨X, x1, x2, x3⟩ := sort_len (fun y0 y1 => series_byDevice y0 y1) (a ++ b) hlen (fun x _ y _ => byDevice_eq x y)
    obtain ⟨Y, y1, y2, y3⟩ := stable_len (fun y0 y1 => Q_SampleOrder y0 y1) (a ++ b) hlen (order_B hAB)
    have hXl := x2.length_eq; have hYl := y2.length_eq
    have dX := dd_len eqB X; have dY := dd_len eqB Y
    have rX := merge_res (dd eqB X) (by omega) (fun x hx => hAB x (x2.mem_iff.1 ((dd_sub eqB X).subset hx)))
    have rY := merge_res (dd eqB Y) (by omega) (fun x hx => hAB x (y2.mem_iff.1 ((dd_sub eqB Y).subset hx)))
    simp only [h, ne_eq, not_true_eq_false, if_false, if_true]
    unfold Q_SamplesOf
    rw [concat_eq a b (by omega) (by omega)]
    simp only [Option.bind_some, x1, y1]
    rw [compact_eq X (by omega), compact_eq Y (by omega)]
    simp only [Option.bind_some]
    rw [rX.1, rY.2, merged_same (x2.trans y2.symm) x3 y3]
    refine ⟨_, rfl, ?_, rfl⟩
    unfold mres
    split
    · simp
    · simp only; omega
  · simp only [h, ne_eq, not_false_eq_true, if_true, if_false]
    exact ⟨_, rfl, by simp, rfl⟩
/-! Of -/
def okOf (d m : Str) (w : Window) (s : Sample) : Bool := decide (s.Device = d) && (decide (s.Metric = m) && (decide (w.From ≤ s.At) && decide (s.At < w.To)))
theorem of_loop (xs : List Sample) (d m : Str) (w : Window) (hl : (xs.length : Int) ≤ 5000) : ∀ (n : Nat) (acc : List Sample) (i : Int), 0 ≤ i → i + n = xs.length → (acc.length : Int) ≤ i → series_Of_l1 xs d m w acc i = some (acc ++ (xs.drop i.toNat).filter (okOf d m w), 0) := by
  intro n
  induction n with
  | zero =>
    intro acc i h0 h1 h2
    unfold series_Of_l1
    rw [iter_eq, series_Of_b1, if_neg (by simp only; omega), map_inr_after, List.drop_of_length_le (by omega)]
    simp
  | succ n ih =>
    intro acc i h0 h1 h2
    obtain ⟨x, hx, hxm, hd⟩ := idx_lt xs h0 (by omega)
    have w1 : w64 (i + 1) = i + 1 := by rw [w64_in] <;> omega
    unfold series_Of_l1 at ih ⊢
    rw [iter_eq, series_Of_b1, if_pos (by simp only; omega), hd]
    simp only [hx, Option.bind_some]
    unfold series_Of_j2 series_Of_j3
    rw [w1, show ((decide (x.Device = d)) && ((decide (x.Metric = m)) && (series_in w x.At))) = okOf d m w x from rfl]
    cases hc : okOf d m w x with
    | true =>
      rw [if_pos rfl, app_le (by simp; omega)]
      simp only [Option.bind_some, after_inl]
      rw [ih _ (i + 1) (by omega) (by omega) (by simp; omega)]
      simp [hc]
    | false =>
      rw [if_neg (by simp)]
      simp only [Option.bind_some, after_inl]
      rw [ih _ (i + 1) (by omega) (by omega) (by omega)]
      simp [hc]
theorem picked_eq (xs : List Sample) (d m : Str) (w : Window) (hl : (xs.length : Int) ≤ 5000) : Q_PickedOf xs d m w = some (xs.filter (okOf d m w)) := by
  unfold Q_PickedOf
  rw [clone_eq xs (by omega)]
  simp only [Option.bind_some]
  have h : slices_DeleteFunc_Sample_Sample xs (fun y0 => some (Q_PickedOf_1x y0 d m w)) = _ := delete_eq _ (fun s => Q_PickedOf_1x s d m w) xs (by omega) (fun x _ => rfl)
  rw [h]
  simp only [Option.bind_some, Option.some.injEq]
  congr 1
  funext s
  unfold Q_PickedOf_1x Q_PickedOf_1x_j1 okOf
  rw [show Q_within s.At w = (decide (w.From ≤ s.At) && decide (s.At < w.To)) from rfl]
  by_cases h1 : s.Device = d <;> by_cases h2 : s.Metric = m <;> simp [h1, h2]
def eO (a : List Sample) (d m : Str) (w : Window) : Int := orL [chk a, if keyB d = true ∧ keyB m = true then 0 else 5, winF w]
theorem of_law (a : List Sample) (d m : Str) (w : Window) (hl : (a.length : Int) ≤ 9) : ∃ t : List Sample × Int, series_Of a d m w = some t ∧ (t.1.length : Int) ≤ 6000 ∧ (if eO a d m w = 0 then Q_PickedOf a d m w = some t.1 ∧ t.2 = 0 else t = ([], eO a d m w)) := by
  unfold series_Of series_Of_j1 eO
  rw [Check_eq, orL3, orL2]
  simp only [Option.bind_some, Key_eq]
  by_cases h1 : chk a = 0
  · simp only [h1, ne_eq, not_true_eq_false, if_false]
    by_cases h2 : keyB d = true ∧ keyB m = true
    · simp only [h2.1, h2.2, and_self, if_true, Bool.not_true, Bool.false_eq_true, if_false, not_true_eq_false, Option.bind_some]
      rw [Window_eq]
      have hw : (!(decide (0 ≤ w.From) && decide (w.From ≤ w.To) && decide (w.To ≤ 345686400000))) = !winB w := rfl
      rw [hw]
      unfold winF
      cases hb : winB w with
      | false => exact ⟨_, rfl, by simp, by simp⟩
      | true =>
        simp only [Bool.not_true, Bool.false_eq_true, if_false, if_true]
        rw [of_loop a d m w (by omega) a.length [] 0 (by omega) (by omega) (by simp)]
        have hf := List.length_filter_le (okOf d m w) a
        exact ⟨_, rfl, by simp; omega, picked_eq a d m w (by omega), rfl⟩
    · simp only [h2, if_false, ne_eq, Int.reduceEq, not_false_eq_true, if_true]
      cases hd : keyB d with
      | false => exact ⟨_, rfl, by simp, by simp⟩
      | true =>
        cases hm : keyB m with
        | false => exact ⟨_, rfl, by simp, by simp⟩
        | true => exact absurd ⟨hd, hm⟩ h2
  · simp only [h1, ne_eq, not_false_eq_true, if_true, if_false]
    exact ⟨_, rfl, by simp, rfl⟩
/-! the law -/
theorem fin_ok (t u : List Sample × Int) (h1 : (t.1.length : Int) ≤ 6000) (h2 : (u.1.length : Int) ≤ 6000) : L_SamplesMerge_j6 t u u.2 t.2 t.1 u.1 = some true := by
  unfold L_SamplesMerge_j6 L_SamplesMerge_j7
  have q1 : slices_Equal_Sample_Sample t.1 t.1 = some (decide (t.1 = t.1)) := gEqual_eq t.1 t.1 (by omega)
  have q2 : slices_Equal_Sample_Sample u.1 u.1 = some (decide (u.1 = u.1)) := gEqual_eq u.1 u.1 (by omega)
  simp only [q1, q2, if_true, Option.bind_some, decide_true, measured_eq]
theorem law_j2 (a b : List Sample) (s3 : Stm) (hA : (a.length : Int) ≤ 9 ∧ ∀ x ∈ a, SampB x) (hB : (b.length : Int) ≤ 9 ∧ ∀ x ∈ b, SampB x) {l12 : List Int} {n13 : Int} (hs : SOk ⟨l12, n13⟩ 70) : L_SamplesMerge_j2 (a, s3) l12 n13 b = some true := by
  unfold L_SamplesMerge_j2
  refine Gen.use (Some_ok (k := 69) hs (by simp) (by simp) (by omega)) (fun d s1 hd hs1 => ?_)
  refine Gen.use (Some_ok (k := 68) (hs1.less (by omega)) (by simp) (by simp) (by omega)) (fun m s2 hm hs2 => ?_)
  refine Gen.use (Frame_ok (k := 55) (hs2.less (by omega)) (by omega)) (fun w s4 hw hs4 => ?_)
  refine Gen.use (Series_ok (k := 3) (hs4.less (by omega)) (by omega) (by omega)) (fun r s5 hr hs5 => ?_)
  obtain ⟨t, ht, htl, htq⟩ := merge_law a b hA.2 hB.2 ⟨hA.1, hB.1⟩
  obtain ⟨u, hu, hul, huq⟩ := of_law a d m w hA.1
  have hE2 : ∀ x y : Int, L_errs [x, y] = some (orL [x, y]) := fun x y => gOr_eq _ (by simp)
  have hE3 : ∀ x y z : Int, L_errs [x, y, z] = some (orL [x, y, z]) := fun x y z => gOr_eq _ (by simp)
  simp only [ht, hu, SamplesFault_eq a hA.2, Check_eq, CheckSeries_eq, SeriesFault_eq r hr.2, SeriesFault_eq a hA.2, Option.bind_some]
  rw [if_neg (by simp), if_neg (by simp), show decide (chkS a ≠ chkS a) = false by simp]
  have j5 : ∀ (e : Int) (l46 : List Sample), L_SamplesMerge_j5 (a, s3) (d, s1) (m, s2) (w, s4) t u (eO a d m w) e l46 = L_SamplesMerge_j6 t u u.2 e l46 u.1 := by
    intro e l46
    unfold L_SamplesMerge_j5
    by_cases h : eO a d m w = 0
    · rw [if_pos h] at huq ⊢
      simp only [huq.1, Option.bind_some]
      rw [h, huq.2]
    · rw [if_neg h] at huq ⊢
      rw [huq]
  have j4 : L_SamplesMerge_j4 (a, s3) b (d, s1) (m, s2) (w, s4) t u (chk a) (eO a d m w) = some true := by
    unfold L_SamplesMerge_j4
    simp only [SamplesFault_eq b hB.2, hE2, Option.bind_some]
    by_cases h : orL [chk a, chk b] = 0
    · rw [if_pos h] at htq ⊢
      rw [htq]
      simp only [Option.bind_some]
      rw [j5]
      exact fin_ok t u htl hul
    · rw [if_neg h] at htq ⊢
      rw [j5]
      have e1 : t.2 = orL [chk a, chk b] := by rw [htq]
      have e2 : t.1 = [] := by rw [htq]
      rw [← e1, ← e2]
      exact fin_ok t u htl hul
  unfold L_SamplesMerge_j3
  rw [if_neg (by simp)]
  simp only [QKey_eq, Option.bind_some, hE3, WindowFault_eq]
  unfold eO at j4
  cases hd' : keyB d with
  | false =>
    rw [hd', if_neg (by simp)] at j4
    simpa [L_when] using j4
  | true =>
    cases hm' : keyB m with
    | false =>
      rw [hd', hm', if_neg (by simp)] at j4
      simpa [L_when] using j4
    | true =>
      rw [hd', hm', if_pos (by simp)] at j4
      simpa [L_when] using j4
theorem SamplesMerge_plain (l : List Int) : L_SamplesMerge l = some true := by
  unfold L_SamplesMerge
  refine Gen.use (Range_ok (k := 300) ⟨by simp, by simp⟩ (by omega) (by omega) (by omega) (by omega)) (fun n1 s1 hn1 hs1 => ?_)
  refine Gen.use (Samples_ok (k := 200) (hs1.less (by simp only; omega)) (by simp only; omega) (by omega)) (fun a s2 ha hs2 => ?_)
  refine Gen.use (Range_ok (k := 199) (hs2.less (by omega)) (by omega) (by omega) (by omega) (by omega)) (fun n2 s3 hn2 hs3 => ?_)
  refine Gen.use (Samples_ok (k := 100) (hs3.less (by simp only; omega)) (by simp only; omega) (by omega)) (fun b s4 hb hs4 => ?_)
  have hA : (a.length : Int) ≤ 9 ∧ ∀ x ∈ a, SampB x := ⟨by have := ha.1; simp only at this; omega, ha.2⟩
  have hB : (b.length : Int) ≤ 9 ∧ ∀ x ∈ b, SampB x := ⟨by have := hb.1; simp only at this; omega, hb.2⟩
  simp only
  split
  · rename_i hpos
    refine Gen.use (Flip_ok (k := 99) (hs4.less (by omega)) (by omega) (by omega) (by omega)) (fun c s5 hc hs5 => ?_)
    unfold L_SamplesMerge_j1
    simp only
    split
    · refine Gen.use (Next_ok (k := 98) (hs5.less (by omega)) (by omega) (by omega) (by omega)) (fun i s6 hi hs6 => ?_)
      rw [slc_in hi.1 (by omega) (by omega)]
      simp only [Option.bind_some]
      have hsub : (((a.drop i.toNat).take (((a.length : Int)).toNat - i.toNat)).length : Int) ≤ 9 ∧ ∀ x ∈ (a.drop i.toNat).take (((a.length : Int)).toNat - i.toNat), SampB x :=
        ⟨by have := hA.1; simp; omega, fun x hx => hA.2 x (List.mem_of_mem_drop (List.mem_of_mem_take hx))⟩
      rw [clone_eq _ (by omega)]
      simp only [Option.bind_some]
      exact law_j2 a _ s2 hA hsub (hs6.less (by omega))
    · exact law_j2 a b s2 hA hB (hs5.less (by omega))
  · unfold L_SamplesMerge_j1
    rw [if_neg (by simp)]
    exact law_j2 a b s2 hA hB (hs4.less (by omega))
end Go.Beacon
