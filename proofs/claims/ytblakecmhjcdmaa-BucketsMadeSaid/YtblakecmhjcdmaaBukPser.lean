/- Plain facts of series: the program's checks and the reference's. No program in sight. -/
import Derived.Test.YtblakecmhjcdmaaBukPkey
set_option linter.unusedVariables false
set_option linter.unusedSimpArgs false
namespace Go.Beacon
open Go Go.Eng

/-! the order of measurements -/
def byDev (a b : Sample) : Int := orL [Lib.compareBytes a.Device b.Device, Lib.compareBytes a.Metric b.Metric, cmpI a.At b.At]
theorem byDevice_eq (a b : Sample) : series_byDevice a b = some (byDev a b) := by
  unfold series_byDevice
  rw [CompareI_eq]
  have h : cmp_Or_int [Lib.compareBytes a.Device b.Device, Lib.compareBytes a.Metric b.Metric, cmpI a.At b.At] = some (byDev a b) := gOr_eq _ (by simp)
  rw [h]; rfl
theorem cmpSS (a b c d : Str) : slices_Compare_string_string [a, b] [c, d] = some (orL [Lib.compareBytes a c, Lib.compareBytes b d]) := by
  have i0 : idx [a, b] 0 = some a := rfl
  have i1 : idx [a, b] 1 = some b := rfl
  have j0 : idx [c, d] 0 = some c := rfl
  have j1 : idx [c, d] 1 = some d := rfl
  have w0 : w64 (0 + 1) = 1 := by decide
  have w1 : w64 (1 + 1) = 2 := by decide
  unfold slices_Compare_string_string slices_Compare_string_string_l1
  rw [iter_eq, slices_Compare_string_string_b1, if_pos (by simp), i0, j0]
  simp only [Option.bind_some]
  rw [if_neg (by simp), CompareS_eq, w0]
  by_cases h : Lib.compareBytes a c = 0
  · rw [if_neg (by simpa using h)]
    simp only [Option.bind_some, after_inl]
    rw [iter_eq, slices_Compare_string_string_b1, if_pos (by simp), i1, j1]
    simp only [Option.bind_some]
    rw [if_neg (by simp), CompareS_eq, w1]
    by_cases h2 : Lib.compareBytes b d = 0
    · rw [if_neg (by simpa using h2)]
      simp only [Option.bind_some, after_inl]
      rw [iter_eq, slices_Compare_string_string_b1, if_neg (by simp), map_inr_after]
      unfold slices_Compare_string_string_k1
      simp [orL, h, h2]
    · rw [if_pos h2]; simp [orL, h, h2]
  · rw [if_pos h]; simp [orL, h]
theorem SampleOrder_eq (a b : Sample) (h : -9223372036854775808 ≤ a.At - b.At ∧ a.At - b.At ≤ 9223372036854775807) : Q_SampleOrder a b = some (byDev a b) := by
  unfold Q_SampleOrder
  rw [cmpSS, w64_in h.1 h.2]
  simp only [Option.bind_some]
  have e : Q_sign (a.At - b.At) = cmpI a.At b.At := by
    unfold Q_sign cmpI
    repeat' split
    all_goals omega
  rw [e]
  unfold byDev
  by_cases h1 : Lib.compareBytes a.Device b.Device = 0
  · by_cases h2 : Lib.compareBytes a.Metric b.Metric = 0
    · simp only [orL, h1, h2]; simp
    · simp [orL, h1, h2]
  · simp [orL, h1]
theorem byDev_neg (a b : Sample) : byDev a b = - byDev b a := by
  unfold byDev
  rw [cmpB_neg a.Device b.Device, cmpB_neg a.Metric b.Metric, cmpI_neg a.At b.At]
  simp only [orL]
  repeat' split
  all_goals omega

/-! Check -/
def badKey (s : Sample) : Bool := !keyB s.Device || !keyB s.Metric
def badNum (s : Sample) : Bool := !(decide (0 ≤ s.At) && decide (s.At ≤ 345686399999)) || (decide (s.Value < -1000000000) || decide (1000000000 < s.Value))
/-- One round of Check. -/
def chkStep (prev : Option Sample) (s : Sample) : Int :=
  if badKey s = true then 5 else if badNum s = true then 1 else match prev with
  | none => 0
  | some p => if byDev s p ≤ 0 then 7 else 0
def prevAt (xs : List Sample) (i : Int) : Option Sample := if i ≤ 0 then none else idx xs (i - 1)
theorem Check_round (xs : List Sample) {i : Int} {s : Sample} (h0 : 0 ≤ i) (h1 : i < xs.length) (hl : (xs.length : Int) ≤ 5000) (hs : idx xs i = some s) :
    series_Check_b1 xs i = some (if chkStep (prevAt xs i) s = 0 then .inl (i + 1) else .inr (chkStep (prevAt xs i) s)) := by
  rw [series_Check_b1, if_pos h1, hs]
  simp only [Option.bind_some, Key_eq]
  unfold series_Check_j1 series_Check_j2 series_Check_j3 chkStep badKey badNum
  rw [Moment_eq, Out_eq]
  cases hk : keyB s.Device
  · simp
  · cases hk2 : keyB s.Metric
    · simp
    · simp only [Bool.not_true, Bool.false_eq_true, if_false, Bool.or_self]
      split
      · rfl
      · rw [w64_in (x := i + 1) (by omega) (by omega)]
        by_cases hi : 0 < i
        · obtain ⟨p, hp, _, _⟩ := idx_lt xs (i := i - 1) (by omega) (by omega)
          have hpa : prevAt xs i = some p := by unfold prevAt; rw [if_neg (by omega), hp]
          rw [hpa, if_pos hi, w64_in (by omega) (by omega), hp]
          simp only [Option.bind_some, byDevice_eq]
          by_cases hb : byDev s p ≤ 0
          · simp [hb]
          · simp [hb]
        · have hpa : prevAt xs i = none := by unfold prevAt; rw [if_pos (by omega)]
          rw [hpa, if_neg hi]; rfl
theorem SamplesFault_round (xs : List Sample) (hB : ∀ x ∈ xs, SampB x) {i : Int} {s : Sample} (h0 : 0 ≤ i) (h1 : i < xs.length) (hl : (xs.length : Int) ≤ 5000) (hs : idx xs i = some s) :
    Q_SamplesFault_b1 xs i = some (if chkStep (prevAt xs i) s = 0 then .inl (i + 1) else .inr (chkStep (prevAt xs i) s)) := by
  rw [Q_SamplesFault_b1, if_pos h1, hs]
  simp only [Option.bind_some, QKey_eq]
  unfold Q_SamplesFault_j1 Q_SamplesFault_j2 Q_SamplesFault_j3 chkStep badKey badNum
  rw [QMoment_eq, Qin_eq]
  cases hk : keyB s.Device
  · simp
  · cases hk2 : keyB s.Metric
    · simp
    · simp only [Bool.not_true, Bool.false_eq_true, if_false, Bool.or_self]
      have e : (!(decide (-1000000000 ≤ s.Value) && decide (s.Value ≤ 1000000000))) = (decide (s.Value < -1000000000) || decide (1000000000 < s.Value)) := by
        rw [Bool.eq_iff_iff]; simp
      rw [e]
      split
      · rfl
      · rw [w64_in (x := i + 1) (by omega) (by omega)]
        by_cases hi : 0 < i
        · obtain ⟨p, hp, hpm, _⟩ := idx_lt xs (i := i - 1) (by omega) (by omega)
          have hpa : prevAt xs i = some p := by unfold prevAt; rw [if_neg (by omega), hp]
          rw [hpa, if_pos hi, w64_in (by omega) (by omega), hp]
          have b1 := (hB p hpm).1
          have b2 := (hB s (idx_mem hs)).1
          simp only [Option.bind_some]
          rw [SampleOrder_eq p s (by omega), byDev_neg]
          simp only [Option.bind_some]
          by_cases hb : byDev s p ≤ 0
          · rw [decide_eq_true (by omega)]; simp [hb]
          · rw [decide_eq_false (by omega)]; simp [hb]
        · have hpa : prevAt xs i = none := by unfold prevAt; rw [if_pos (by omega)]
          rw [hpa, if_neg hi]; rfl
def chkAux : Option Sample → List Sample → Int
  | _, [] => 0
  | p, s :: r => if chkStep p s = 0 then chkAux (some s) r else chkStep p s
def chk (xs : List Sample) : Int := if (5000 : Int) < xs.length then 2 else chkAux none xs
theorem chk_iter (xs : List Sample) (hl : (xs.length : Int) ≤ 5000) (f : Int → Option (Int ⊕ Int)) (hf : ∀ {i : Int} {s : Sample}, 0 ≤ i → i < xs.length → idx xs i = some s → f i = some (if chkStep (prevAt xs i) s = 0 then .inl (i + 1) else .inr (chkStep (prevAt xs i) s)))
    (he : f xs.length = some (.inr 0)) : ∀ (n : Nat) (i : Int), 0 ≤ i → i + n = xs.length → iter f i = some (chkAux (prevAt xs i) (xs.drop i.toNat))
  | 0, i, h0, hn => by
    obtain rfl : i = xs.length := by omega
    rw [iter_eq, he, List.drop_of_length_le (by omega)]; rfl
  | n + 1, i, h0, hn => by
    obtain ⟨s, hs, _, hd⟩ := idx_lt xs h0 (by omega)
    rw [iter_eq, hf h0 (by omega) hs, hd]
    simp only [Option.bind_some, chkAux]
    split
    · have hp : prevAt xs (i + 1) = some s := by unfold prevAt; rw [if_neg (by omega), show i + 1 - 1 = i by omega, hs]
      have := chk_iter xs hl f hf he n (i + 1) (by omega) (by omega)
      rw [after_inl, this, hp]
    · rfl
theorem Check_eq (xs : List Sample) : series_Check xs = some (chk xs) := by
  unfold series_Check chk
  split
  · rfl
  · rename_i hl
    unfold series_Check_l1
    rw [chk_iter xs (by omega) _ (fun h0 h1 hs => Check_round xs h0 h1 (by omega) hs) (by show series_Check_b1 xs _ = _; rw [series_Check_b1, if_neg (by omega)]; rfl) xs.length 0 (by omega) (by omega)]
    rfl
theorem SamplesFault_eq (xs : List Sample) (hB : ∀ x ∈ xs, SampB x) : Q_SamplesFault xs = some (chk xs) := by
  unfold Q_SamplesFault chk
  split
  · rfl
  · rename_i hl
    unfold Q_SamplesFault_l1
    rw [chk_iter xs (by omega) _ (fun h0 h1 hs => SamplesFault_round xs hB h0 h1 (by omega) hs) (by show Q_SamplesFault_b1 xs _ = _; rw [Q_SamplesFault_b1, if_neg (by omega)]; rfl) xs.length 0 (by omega) (by omega)]
    rfl
theorem chk_len {xs : List Sample} (h : chk xs = 0) : (xs.length : Int) ≤ 5000 := by
  unfold chk at h
  split at h <;> omega
/-! CheckSeries -/
def offKey (y x : Sample) : Bool := decide (x.Device ≠ y.Device) || decide (x.Metric ≠ y.Metric)
def anyOff : List Sample → Bool
  | [] => false
  | y :: r => (y :: r).any (offKey y)
def chkS (xs : List Sample) : Int := if chk xs ≠ 0 then chk xs else if anyOff xs = true then 13 else 0
theorem off_any (xs : List Sample) (f : Sample → List Sample → Option Bool) (hf : ∀ x y r, f x (y :: r) = some (offKey y x)) (hl : (xs.length : Int) ≤ 4611686018427387904) :
    gContainsFunc xs (fun y0 => f y0 xs) = some (anyOff xs) := by
  cases xs with
  | nil =>
    have h := gContainsFunc_eq ([] : List Sample) (fun y0 => f y0 []) (fun _ => false) (fun x hx => absurd hx (by simp)) hl
    rw [h]; rfl
  | cons y r => exact gContainsFunc_eq (y :: r) _ (offKey y) (fun x _ => hf x y r) hl
theorem CheckSeries1_eq (x y : Sample) (r : List Sample) : series_CheckSeries_1x x (y :: r) = some (offKey y x) := by
  unfold series_CheckSeries_1x series_CheckSeries_1x_j1 offKey
  have : idx (y :: r) 0 = some y := rfl
  simp only [this, Option.bind_some]
  split
  · rename_i h; simp [h]
  · rename_i h; simp at h; simp [h]
theorem SeriesFault1_eq (x y : Sample) (r : List Sample) : Q_SeriesFault_1x x (y :: r) = some (offKey y x) := CheckSeries1_eq x y r
theorem CheckSeries_eq (xs : List Sample) : series_CheckSeries xs = some (chkS xs) := by
  unfold series_CheckSeries chkS
  rw [Check_eq]
  simp only [Option.bind_some]
  split
  · rfl
  · rename_i h
    have hl := chk_len (Decidable.not_not.1 h)
    have : slices_ContainsFunc_Sample_Sample xs (fun y0 => series_CheckSeries_1x y0 xs) = _ := off_any xs series_CheckSeries_1x CheckSeries1_eq (by omega)
    rw [this]
    simp only [Option.bind_some]
    split <;> rfl
theorem SeriesFault_eq (xs : List Sample) (hB : ∀ x ∈ xs, SampB x) : Q_SeriesFault xs = some (chkS xs) := by
  unfold Q_SeriesFault chkS
  rw [SamplesFault_eq xs hB]
  simp only [Option.bind_some]
  split
  · rfl
  · rename_i h
    have hl := chk_len (Decidable.not_not.1 h)
    have : slices_ContainsFunc_Sample_Sample xs (fun y0 => Q_SeriesFault_1x y0 xs) = _ := off_any xs Q_SeriesFault_1x SeriesFault1_eq (by omega)
    rw [this]
    simp only [Option.bind_some]
    split <;> rfl
/-- A right series. -/
structure Good (xs : List Sample) : Prop where
  len : (xs.length : Int) ≤ 5000
  up : xs.Pairwise (fun a b => a.At < b.At)
  at_ : ∀ s ∈ xs, 0 ≤ s.At ∧ s.At ≤ 345686399999
  val : ∀ s ∈ xs, -1000000000 ≤ s.Value ∧ s.Value ≤ 1000000000
theorem byDev_same {a b : Sample} (hd : a.Device = b.Device) (hm : a.Metric = b.Metric) : byDev a b = cmpI a.At b.At := by
  unfold byDev
  rw [hd, hm, cmpB_self, cmpB_self]
  simp only [orL]
  simp
  intro h; exact h.symm
theorem chkStep_zero {p : Option Sample} {s : Sample} (h : chkStep p s = 0) : badKey s = false ∧ badNum s = false ∧ ∀ q, p = some q → 0 < byDev s q := by
  unfold chkStep at h
  split at h
  · omega
  · rename_i h1
    split at h
    · omega
    · rename_i h2
      refine ⟨by simpa using h1, by simpa using h2, fun q hq => ?_⟩
      subst hq
      simp only at h
      split at h <;> omega
theorem chkAux_good {d m : Str} : ∀ (xs : List Sample) (p : Option Sample), (∀ s ∈ xs, s.Device = d ∧ s.Metric = m) → (∀ q, p = some q → q.Device = d ∧ q.Metric = m) → chkAux p xs = 0 →
    xs.Pairwise (fun a b => a.At < b.At) ∧ (∀ q, p = some q → ∀ s ∈ xs, q.At < s.At) ∧ (∀ s ∈ xs, badNum s = false)
  | [], p, _, _, _ => ⟨.nil, by simp, by simp⟩
  | s :: r, p, hs, hq, h => by
    simp only [chkAux] at h
    split at h
    · rename_i h0
      obtain ⟨h1, h2, h3⟩ := chkStep_zero h0
      obtain ⟨sd, sm⟩ := hs s (by simp)
      obtain ⟨g1, g2, g3⟩ := chkAux_good r (some s) (fun x hx => hs x (by simp [hx])) (fun q hq' => by obtain rfl := Option.some.inj hq'; exact ⟨sd, sm⟩) h
      have hlt : ∀ q, p = some q → q.At < s.At := fun q hq' => by
        have hb := h3 q hq'
        obtain ⟨qd, qm⟩ := hq q hq'
        rw [byDev_same (by rw [sd, qd]) (by rw [sm, qm])] at hb
        unfold cmpI at hb
        split at hb
        · omega
        · split at hb <;> omega
      refine ⟨.cons (fun x hx => g2 s rfl x hx) g1, fun q hq' x hx => ?_, fun x hx => ?_⟩
      · have := hlt q hq'
        rcases List.mem_cons.1 hx with rfl | hx
        · exact this
        · have := g2 s rfl x hx; omega
      · rcases List.mem_cons.1 hx with rfl | hx
        · exact h2
        · exact g3 x hx
    · omega
theorem badNum_spec {s : Sample} (h : badNum s = false) : (0 ≤ s.At ∧ s.At ≤ 345686399999) ∧ (-1000000000 ≤ s.Value ∧ s.Value ≤ 1000000000) := by
  unfold badNum at h
  simp at h
  omega
theorem chkS_good {xs : List Sample} (h : chkS xs = 0) : Good xs := by
  have h0 : chk xs = 0 := by
    unfold chkS at h
    split at h
    · rename_i hh; exact (hh h).elim
    · rename_i hh; exact Decidable.not_not.1 hh
  have hl := chk_len h0
  have h1 : chkAux none xs = 0 := by unfold chk at h0; rw [if_neg (by omega)] at h0; exact h0
  cases xs with
  | nil => exact ⟨by simp, .nil, by simp, by simp⟩
  | cons y r =>
    have h2 : (y :: r).any (offKey y) = false := by
      unfold chkS at h
      rw [h0] at h
      simp only [ne_eq, not_true_eq_false, if_false] at h
      cases hb : (y :: r).any (offKey y) with
      | false => rfl
      | true => rw [show anyOff (y :: r) = true from hb] at h; simp at h
    have h3 : ∀ s ∈ y :: r, s.Device = y.Device ∧ s.Metric = y.Metric := by
      intro s hs
      have := List.any_eq_false.1 h2 s hs
      simp [offKey] at this
      exact this
    obtain ⟨g1, _, g3⟩ := chkAux_good (d := y.Device) (m := y.Metric) (y :: r) none h3 (by simp) h1
    exact ⟨hl, g1, fun s hs => (badNum_spec (g3 s hs)).1, fun s hs => (badNum_spec (g3 s hs)).2⟩
theorem Window_eq (w : Window) : base_Window w = (decide (0 ≤ w.From) && decide (w.From ≤ w.To) && decide (w.To ≤ 345686400000)) := by
  unfold base_Window base_Window_j1
  rw [Out_eq, Bool.eq_iff_iff]; simp
def winB (w : Window) : Bool := decide (0 ≤ w.From) && decide (w.From ≤ w.To) && decide (w.To ≤ 345686400000)
def winF (w : Window) : Int := if winB w = true then 0 else 1
theorem WindowFault_eq (w : Window) : Q_WindowFault w = winF w := by
  unfold Q_WindowFault Q_WindowFault_j1 winF winB
  rw [Qin_eq]
  by_cases h : 0 ≤ w.From ∧ w.From ≤ w.To ∧ w.To ≤ 345686400000
  · rw [if_neg (by simp; omega), if_pos (by simp; omega)]
  · rw [if_pos (by simp; omega), if_neg (by simp; omega)]
def faultS (xs : List Sample) (w : Window) : Int := if chkS xs ≠ 0 then chkS xs else winF w
theorem fault_eq (xs : List Sample) (w : Window) : series_fault xs w = some (faultS xs w) := by
  unfold series_fault series_fault_j1 series_fault_j2 faultS winF
  rw [CheckSeries_eq]
  simp only [Option.bind_some]
  rw [Window_eq]
  show _ = some (if chkS xs ≠ 0 then chkS xs else if winB w = true then 0 else 1)
  change (if (decide (chkS xs = 0) && !winB w) = true then _ else _) = _
  by_cases h : chkS xs = 0
  · rw [h]
    cases winB w <;> simp
  · simp [h]
end Go.Beacon
