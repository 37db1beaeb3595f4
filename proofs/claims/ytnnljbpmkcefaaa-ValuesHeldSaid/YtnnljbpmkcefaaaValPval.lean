/- The law ValuesHeld as a plain statement. No program in sight. -/
import Derived.Test.YtnnljbpmkcefaaaValPnum
import Derived.Test.YtnnljbpmkcefaaaValPmeas
set_option linter.unusedVariables false
set_option linter.unusedSimpArgs false
namespace Go.Beacon
open Go Go.Eng

theorem Out_or (n lo hi : Int) : base_Out n lo hi = decide (n < lo ∨ hi < n) := by rw [Out_eq]; simp
/-! spans -/
def one (w : Window) (x : Sample) (to : Int) : List Series_span := if max x.At w.From < to then [⟨max x.At w.From, to, x.Value⟩] else []
def spn (w : Window) : List Sample → List Series_span
  | [] => []
  | [x] => one w x w.To
  | x :: y :: r => one w x (min w.To y.At) ++ spn w (y :: r)
def cv (s : Series_span) : Fleetref2_stretch := ⟨s.from_, s.to_, s.value_⟩
theorem one_len (w : Window) (x : Sample) (to : Int) : (one w x to).length ≤ 1 := by unfold one; split <;> simp
theorem spn_len (w : Window) : ∀ xs : List Sample, (spn w xs).length ≤ xs.length
  | [] => by simp [spn]
  | [x] => by have := one_len w x w.To; simpa [spn] using this
  | x :: y :: r => by
    have := one_len w x (min w.To y.At); have := spn_len w (y :: r)
    simp only [spn, List.length_append, List.length_cons] at *; omega
theorem spans_loop (xs : List Sample) (w : Window) (hl : (xs.length : Int) ≤ 5000) : ∀ (n : Nat) (acc : List Series_span) (acc' : List Fleetref2_stretch) (i : Int), 0 ≤ i → i + n = xs.length → (acc.length : Int) ≤ i → (acc'.length : Int) ≤ i →
    series_spans_l1 xs w acc i = some (acc ++ spn w (xs.drop i.toNat)) ∧ Q_stretches_l1 xs w acc' i = some (acc' ++ (spn w (xs.drop i.toNat)).map cv) := by
  intro n
  induction n with
  | zero =>
    intro acc acc' i h0 h1 h2 h3
    unfold series_spans_l1 Q_stretches_l1
    rw [iter_eq, series_spans_b1, if_neg (by simp only; omega), map_inr_after, iter_eq, Q_stretches_b1, if_neg (by simp only; omega), map_inr_after, List.drop_of_length_le (by omega)]
    simp [spn]
  | succ n ih =>
    intro acc acc' i h0 h1 h2 h3
    obtain ⟨x, hx, hxm, hd⟩ := idx_lt xs h0 (by omega)
    have w1 : w64 (i + 1) = i + 1 := by rw [w64_in] <;> omega
    have key : ∀ to : Int, spn w (xs.drop i.toNat) = one w x to ++ spn w (xs.drop (i + 1).toNat) →
        (series_spans_j1 w acc i x to).bind (after fun x_1 => series_spans_l1 xs w x_1.1 x_1.2) = some (acc ++ spn w (xs.drop i.toNat)) ∧
        (Q_stretches_j1 w acc' i x to).bind (after fun x_1 => Q_stretches_l1 xs w x_1.1 x_1.2) = some (acc' ++ (spn w (xs.drop i.toNat)).map cv) := by
      intro to hsp
      rw [hsp]
      unfold series_spans_j1 Q_stretches_j1 series_spans_j2 Q_stretches_j2 one
      rw [w1]
      by_cases hc : max x.At w.From < to
      · rw [if_pos hc, if_pos hc, if_pos hc, app_le (by simp; omega), app_le (by simp; omega)]
        simp only [Option.bind_some, after_inl]
        obtain ⟨r1, r2⟩ := ih (acc ++ [⟨max x.At w.From, to, x.Value⟩]) (acc' ++ [⟨max x.At w.From, to, x.Value⟩]) (i + 1) (by omega) (by omega) (by simp; omega) (by simp; omega)
        rw [r1, r2]
        simp [cv]
      · rw [if_neg hc, if_neg hc, if_neg hc]
        simp only [Option.bind_some, after_inl]
        obtain ⟨r1, r2⟩ := ih acc acc' (i + 1) (by omega) (by omega) (by omega) (by omega)
        rw [r1, r2]
        simp
    unfold series_spans_l1 Q_stretches_l1 at key ⊢
    rw [iter_eq, series_spans_b1, if_pos (by simp only; omega), iter_eq, Q_stretches_b1, if_pos (by simp only; omega)]
    simp only [hx, Option.bind_some, w1]
    by_cases hn : i + 1 < xs.length
    · obtain ⟨y, hy, hym, hd2⟩ := idx_lt xs (i := i + 1) (by omega) hn
      rw [if_pos hn, if_pos hn, hy]
      simp only [Option.bind_some]
      exact key _ (by rw [hd, hd2]; rfl)
    · rw [if_neg hn, if_neg hn]
      refine key _ ?_
      rw [hd, List.drop_of_length_le (l := xs) (i := (i + 1).toNat) (by omega)]
      simp [spn]
theorem spans_eq (xs : List Sample) (w : Window) (hl : (xs.length : Int) ≤ 5000) : series_spans xs w = some (spn w xs) ∧ Q_stretches xs w = some ((spn w xs).map cv) := by
  have := spans_loop xs w hl xs.length [] [] 0 (by omega) (by omega) (by simp) (by simp)
  simpa [series_spans, Q_stretches] using this
/-! how long -/
def durs : List Series_span → Int
  | [] => 0
  | s :: r => (s.to_ - s.from_) + durs r
theorem durs_app : ∀ a b : List Series_span, durs (a ++ b) = durs a + durs b
  | [], b => by simp [durs]
  | x :: a, b => by simp only [List.cons_append, durs, durs_app a b]; omega
theorem one_dur (w : Window) (x : Sample) (to : Int) : durs (one w x to) = max 0 (to - max x.At w.From) := by
  unfold one
  split
  · simp only [durs]; omega
  · simp only [durs]; omega
theorem spn_dur (w : Window) : ∀ (x : Sample) (r : List Sample), (x :: r).Pairwise (fun a b => a.At < b.At) → durs (spn w (x :: r)) ≤ max 0 (w.To - max x.At w.From)
  | x, [], _ => by simp only [spn]; rw [one_dur]; omega
  | x, y :: r, h => by
    have hxy : x.At < y.At := (List.pairwise_cons.1 h).1 y (by simp)
    have ih := spn_dur w y r (List.pairwise_cons.1 h).2
    simp only [spn]
    rw [durs_app, one_dur]
    omega
theorem one_ok (w : Window) (x : Sample) (to : Int) : ∀ s ∈ one w x to, s.from_ < s.to_ ∧ s.value_ = x.Value := by
  intro s hs
  unfold one at hs
  split at hs
  · rename_i hc; rw [List.mem_singleton] at hs; rw [hs]; exact ⟨hc, rfl⟩
  · simp at hs
theorem spn_ok (w : Window) : ∀ xs : List Sample, (∀ x ∈ xs, -1000000000 ≤ x.Value ∧ x.Value ≤ 1000000000) → ∀ s ∈ spn w xs, s.from_ < s.to_ ∧ -1000000000 ≤ s.value_ ∧ s.value_ ≤ 1000000000
  | [], h, s, hs => by simp [spn] at hs
  | [x], h, s, hs => by
    obtain ⟨h1, h2⟩ := one_ok w x _ s (by simpa [spn] using hs)
    rw [h2]; exact ⟨h1, h x (by simp)⟩
  | x :: y :: r, h, s, hs => by
    simp only [spn, List.mem_append] at hs
    rcases hs with hs | hs
    · obtain ⟨h1, h2⟩ := one_ok w x _ s hs
      rw [h2]; exact ⟨h1, h x (by simp)⟩
    · exact spn_ok w (y :: r) (fun z hz => h z (by simp [List.mem_cons.1 hz])) s hs
theorem durs_nonneg : ∀ l : List Series_span, (∀ s ∈ l, s.from_ < s.to_) → 0 ≤ durs l
  | [], _ => by simp [durs]
  | s :: r, h => by
    have := h s (by simp); have := durs_nonneg r (fun z hz => h z (by simp [hz]))
    simp only [durs]; omega
def wsum : List Series_span → Int
  | [] => 0
  | s :: r => s.value_ * (s.to_ - s.from_) + wsum r
theorem held_loop (l : List Series_span) (hl : (l.length : Int) ≤ 5000) (hok : ∀ s ∈ l, s.from_ < s.to_ ∧ -1000000000 ≤ s.value_ ∧ s.value_ ≤ 1000000000) : ∀ (n : Nat) (a t i : Int), 0 ≤ i → i + n = l.length → 0 ≤ t → t + durs (l.drop i.toNat) ≤ 7776000000 → (-1000000000 * t ≤ a ∧ a ≤ 1000000000 * t) →
    (series_Held_l1 l a t i = series_Held_k1 (a + wsum (l.drop i.toNat)) (t + durs (l.drop i.toNat)) ∧ Q_HeldOf_l1 (l.map cv) a t i = Q_HeldOf_k1 (a + wsum (l.drop i.toNat)) (t + durs (l.drop i.toNat))) ∧ (-1000000000 * (t + durs (l.drop i.toNat)) ≤ a + wsum (l.drop i.toNat) ∧ a + wsum (l.drop i.toNat) ≤ 1000000000 * (t + durs (l.drop i.toNat))) := by
  intro n
  induction n with
  | zero =>
    intro a t i h0 h1 h2 h3 h4
    unfold series_Held_l1 Q_HeldOf_l1
    rw [iter_eq, series_Held_b1, if_neg (by simp only; omega), map_inr_after, iter_eq, Q_HeldOf_b1, if_neg (by simp; omega), map_inr_after, List.drop_of_length_le (by omega)]
    simp only [wsum, durs, Int.add_zero]
    exact ⟨⟨trivial, trivial⟩, h4⟩
  | succ n ih =>
    intro a t i h0 h1 h2 h3 h4
    obtain ⟨s, hs, hsm, hd⟩ := idx_lt l h0 (by omega)
    obtain ⟨o1, o2, o3⟩ := hok s hsm
    have hs' : idx (l.map cv) i = some (cv s) := by
      obtain ⟨_, _, h⟩ := idx_some hs
      unfold idx; rw [if_pos h0, List.getElem?_map, h]; rfl
    have hdn := durs_nonneg (l.drop (i + 1).toNat) (fun z hz => (hok z (List.mem_of_mem_drop hz)).1)
    rw [hd] at h3 ⊢
    simp only [durs, wsum] at h3 ⊢
    have hlo : -1000000000 * (s.to_ - s.from_) ≤ s.value_ * (s.to_ - s.from_) := Int.mul_le_mul_of_nonneg_right o2 (by omega)
    have hhi : s.value_ * (s.to_ - s.from_) ≤ 1000000000 * (s.to_ - s.from_) := Int.mul_le_mul_of_nonneg_right o3 (by omega)
    generalize hm : s.value_ * (s.to_ - s.from_) = m at *
    have w1 : w64 (i + 1) = i + 1 := by rw [w64_in] <;> omega
    unfold series_Held_l1 Q_HeldOf_l1 at ih ⊢
    rw [iter_eq, series_Held_b1, if_pos (by simp only; omega), iter_eq, Q_HeldOf_b1, if_pos (by simp; omega)]
    simp only [hs, hs', Option.bind_some, after_inl, cv, w1]
    have hfit : -9223372036854775808 ≤ s.to_ - s.from_ ∧ s.to_ - s.from_ ≤ 9223372036854775807 := by omega
    rw [w64_in (x := s.to_ - s.from_) hfit.1 hfit.2, hm, w64_in (x := m) (by omega) (by omega), w64_in (x := a + m) (by omega) (by omega), w64_in (x := t + _) (by omega) (by omega)]
    have := ih (a + m) (t + (s.to_ - s.from_)) (i + 1) (by omega) (by omega) (by omega) (by omega) (by omega)
    rw [Int.add_assoc a m, Int.add_assoc t] at this
    exact this

/-! fractions -/
theorem gcd_step {a b : Int} (hb : b ≠ 0) : Nat.gcd b.natAbs (a.tmod b).natAbs = Nat.gcd a.natAbs b.natAbs := by
  rw [Int.natAbs_tmod, Nat.gcd_comm a.natAbs, Nat.gcd_rec b.natAbs a.natAbs, Nat.gcd_comm]
theorem Gcd_eq {a b : Int} (ha : 0 ≤ a) (hb : 0 ≤ b) : base_Gcd a b = some ((Nat.gcd a.natAbs b.natAbs : Nat) : Int) := by
  unfold base_Gcd base_Gcd_l1
  refine iter_to _ (fun s : Int × Int => s.2.natAbs) (fun s : Int × Int => 0 ≤ s.1 ∧ 0 ≤ s.2 ∧ Nat.gcd s.1.natAbs s.2.natAbs = Nat.gcd a.natAbs b.natAbs) _ ?_ _ ⟨ha, hb, rfl⟩
  rintro ⟨x, y⟩ ⟨h0, h1, h2⟩
  simp only at h0 h1 h2 ⊢
  unfold base_Gcd_b1
  by_cases hy : y = 0
  · rw [if_neg (by simpa using hy)]
    right
    rw [hy] at h2
    simp only [Int.natAbs_zero, Nat.gcd_zero_right] at h2
    rw [← h2]
    simp only [Option.map_some, Option.some.injEq, Sum.inr.injEq]
    omega
  · rw [if_pos hy, rem_ne hy]
    left
    have hlt := Int.tmod_lt_of_pos x (show 0 < y by omega)
    have hnn := Int.tmod_nonneg y h0
    exact ⟨_, rfl, ⟨h1, hnn, by simp only; rw [gcd_step hy]; exact h2⟩, by simp only; omega⟩
theorem Lowest_eq {n d : Int} (hn : -9000000000000000000 ≤ n ∧ n ≤ 9000000000000000000) (hd : 0 < d ∧ d ≤ 9000000000000000000) : Q_Lowest n d = Q_Lowest_j1 n d ((Nat.gcd n.natAbs d.natAbs : Nat) : Int) := by
  unfold Q_Lowest Q_Lowest_l1
  have hg := Nat.gcd_le_right n.natAbs (show 0 < d.natAbs by omega)
  refine iter_to _ (fun s : Int × Int => s.2.natAbs) (fun s : Int × Int => Nat.gcd s.1.natAbs s.2.natAbs = Nat.gcd n.natAbs d.natAbs) _ ?_ _ rfl
  rintro ⟨x, y⟩ h2
  simp only at h2 ⊢
  unfold Q_Lowest_b1
  by_cases hy : y = 0
  · rw [if_neg (by simpa using hy)]
    right
    rw [hy] at h2
    simp only [Int.natAbs_zero, Nat.gcd_zero_right] at h2
    unfold Q_Lowest_k2
    by_cases hx : x < 0
    · rw [if_pos hx, w64_in (by omega) (by omega)]
      rw [show -x = ((Nat.gcd n.natAbs d.natAbs : Nat) : Int) by omega]
    · rw [if_neg hx, show x = ((Nat.gcd n.natAbs d.natAbs : Nat) : Int) by omega]
  · rw [if_pos hy, rem_ne hy]
    left
    refine ⟨_, rfl, by simp only; rw [gcd_step hy]; exact h2, ?_⟩
    simp only
    rw [Int.natAbs_tmod]
    exact Nat.mod_lt _ (by omega)
theorem Fraction_eq {n d : Int} (hn : -9000000000000000000 ≤ n ∧ n ≤ 9000000000000000000) (hd : 0 < d ∧ d ≤ 9000000000000000000) : ∃ f, base_Fraction n d = some f ∧ Q_Lowest n d = some f := by
  rw [Lowest_eq hn hd]
  unfold base_Fraction Q_Lowest_j1
  have e1 : max n (w64 (-n)) = (n.natAbs : Int) := by rw [w64_in (by omega) (by omega)]; omega
  have hg : 0 < Nat.gcd n.natAbs d.natAbs := Nat.gcd_pos_of_pos_right _ (by omega)
  rw [e1, Gcd_eq (by omega) (by omega)]
  simp only [Option.bind_some, Int.natAbs_natCast]
  rw [quo_ne (by omega), quo_ne (by omega)]
  exact ⟨_, rfl, rfl⟩

/-! values -/
def vals : List Sample → List Int
  | [] => []
  | x :: r => x.Value :: vals r
theorem vals_len : ∀ xs : List Sample, (vals xs).length = xs.length
  | [] => rfl
  | x :: r => by simp [vals, vals_len r]
theorem vals_loop (xs : List Sample) (part : Int) (hl : (xs.length : Int) ≤ 5000) : ∀ (n : Nat) (l : List Int) (i : Int), 0 ≤ i → i + n = xs.length → (l.length : Int) ≤ i →
    series_Quantile_l1 xs part l i = series_Quantile_k1 part (l ++ vals (xs.drop i.toNat)) ∧ Q_QuantileOf_l1 xs part l i = Q_QuantileOf_k1 part (l ++ vals (xs.drop i.toNat)) := by
  intro n
  induction n with
  | zero =>
    intro l i h0 h1 h2
    unfold series_Quantile_l1 Q_QuantileOf_l1
    rw [iter_eq, series_Quantile_b1, if_neg (by simp only; omega), map_inr_after, iter_eq, Q_QuantileOf_b1, if_neg (by simp only; omega), map_inr_after, List.drop_of_length_le (by omega)]
    simp [vals]
  | succ n ih =>
    intro l i h0 h1 h2
    obtain ⟨x, hx, hxm, hd⟩ := idx_lt xs h0 (by omega)
    have w1 : w64 (i + 1) = i + 1 := by rw [w64_in] <;> omega
    unfold series_Quantile_l1 Q_QuantileOf_l1 at ih ⊢
    rw [iter_eq, series_Quantile_b1, if_pos (by simp only; omega), iter_eq, Q_QuantileOf_b1, if_pos (by simp only; omega), hd]
    simp only [hx, Option.bind_some]
    rw [app_le (by simp; omega)]
    simp only [Option.bind_some, after_inl, w1]
    obtain ⟨r1, r2⟩ := ih (l ++ [x.Value]) (i + 1) (by omega) (by omega) (by simp; omega)
    rw [r1, r2]
    simp [vals]
theorem sort_ok (l : List Int) (h : l.length ≤ 5000) : lenOk l.length (fun r : List Int => r.length) (slices_Sort_int_int l) = some (srtI l) := by
  unfold slices_Sort_int_int sort1
  rw [if_pos (by omega)]
  unfold lenOk
  simp only [Option.bind_some]
  rw [if_pos]
  unfold srtI
  exact List.length_mergeSort _
theorem quant_eq (l : List Int) (part : Int) (hl : 0 < l.length ∧ l.length ≤ 5000) (hp : 1 ≤ part ∧ part ≤ 1000) : ∃ v, series_Quantile_k1 part l = some (v, 0) ∧ Q_QuantileOf_k1 part l = some v := by
  unfold series_Quantile_k1 Q_QuantileOf_k1
  rw [sort_ok l hl.2]
  simp only [Option.bind_some]
  have hsl : (srtI l).length = l.length := by unfold srtI; exact List.length_mergeSort _
  generalize srtI l = s at hsl
  have hn : 1 ≤ s.length ∧ s.length ≤ 5000 := by omega
  have b1 : part * (s.length : Int) ≤ 1000 * s.length := Int.mul_le_mul_of_nonneg_right hp.2 (by omega)
  have b0 : 1 * (s.length : Int) ≤ part * s.length := Int.mul_le_mul_of_nonneg_right hp.1 (by omega)
  rw [w64_in (x := part * _) (by omega) (by omega)]
  generalize hq : part * (s.length : Int) = q at b0 b1
  rw [w64_in (x := q + 999) (by omega) (by omega), Int.tdiv_eq_ediv_of_nonneg (by omega), w64_in (x := (q + 999) / 1000) (by omega) (by omega), w64_in (x := (q + 999) / 1000 - 1) (by omega) (by omega)]
  obtain ⟨v, hv, _, _⟩ := idx_lt s (i := (q + 999) / 1000 - 1) (by omega) (by omega)
  refine ⟨v, by rw [hv]; rfl, ?_⟩
  unfold Q_QuantileOf_l2
  refine iter_to _ (fun i : Int => ((s.length : Int) - i).toNat) (fun i : Int => 0 ≤ i ∧ i ≤ (q + 999) / 1000 - 1) _ ?_ _ ⟨by omega, by omega⟩
  rintro i ⟨h0, h1⟩
  unfold Q_QuantileOf_b2
  rw [if_pos (by omega)]
  obtain ⟨x, hx, _, _⟩ := idx_lt s (i := i) h0 (by omega)
  rw [hx, hq, w64_in (x := q) (by omega) (by omega), w64_in (x := i + 1) (by omega) (by omega), w64_in (x := (i + 1) * 1000) (by omega) (by omega)]
  simp only [Option.bind_some]
  by_cases hc : q ≤ (i + 1) * 1000
  · rw [if_pos hc]
    right
    have : i = (q + 999) / 1000 - 1 := by omega
    rw [this] at hx
    rw [hx] at hv
    rw [Option.some.inj hv]
  · rw [if_neg hc]
    left
    exact ⟨_, rfl, ⟨by omega, by omega⟩, by omega⟩

/-! beyond -/
def byS (lo hi : Int) (acc : List Window) (s : Series_span) : List Window :=
  if lo ≤ s.value_ ∧ s.value_ ≤ hi then acc else match idx acc ((acc.length : Int) - 1) with
  | some v => if v.To = s.from_ then acc.set ((acc.length : Int) - 1).toNat ⟨v.From, s.to_⟩ else acc ++ [⟨s.from_, s.to_⟩]
  | none => acc ++ [⟨s.from_, s.to_⟩]
theorem byS_len (lo hi : Int) (acc : List Window) (s : Series_span) : (byS lo hi acc s).length ≤ acc.length + 1 := by
  unfold byS
  split
  · omega
  · split
    · split <;> simp
    · simp
def byL (lo hi : Int) : List Series_span → List Window → List Window
  | [], acc => acc
  | s :: r, acc => byL lo hi r (byS lo hi acc s)
theorem byL_len (lo hi : Int) : ∀ (l : List Series_span) (acc : List Window), (byL lo hi l acc).length ≤ acc.length + l.length
  | [], acc => by simp [byL]
  | s :: r, acc => by
    have := byS_len lo hi acc s; have := byL_len lo hi r (byS lo hi acc s)
    simp only [byL, List.length_cons]; omega
theorem beyond_loop (l : List Series_span) (lo hi : Int) (hl : (l.length : Int) ≤ 5000) : ∀ (n : Nat) (acc : List Window) (i : Int), 0 ≤ i → i + n = l.length → (acc.length : Int) ≤ i →
    series_Beyond_l1 lo hi l acc i = some (byL lo hi (l.drop i.toNat) acc, 0) ∧ Q_BeyondOf_l1 lo hi (l.map cv) acc i = some (byL lo hi (l.drop i.toNat) acc) := by
  intro n
  induction n with
  | zero =>
    intro acc i h0 h1 h2
    unfold series_Beyond_l1 Q_BeyondOf_l1
    rw [iter_eq, series_Beyond_b1, if_neg (by simp only; omega), map_inr_after, iter_eq, Q_BeyondOf_b1, if_neg (by simp; omega), map_inr_after, List.drop_of_length_le (by omega)]
    exact ⟨rfl, rfl⟩
  | succ n ih =>
    intro acc i h0 h1 h2
    obtain ⟨s, hs, hsm, hd⟩ := idx_lt l h0 (by omega)
    have hs' : idx (l.map cv) i = some (cv s) := by
      obtain ⟨_, _, h⟩ := idx_some hs
      unfold idx; rw [if_pos h0, List.getElem?_map, h]; rfl
    have w1 : w64 (i + 1) = i + 1 := by rw [w64_in] <;> omega
    have w2 : w64 ((acc.length : Int) - 1) = acc.length - 1 := by rw [w64_in] <;> omega
    have hbl := byS_len lo hi acc s
    obtain ⟨r1, r2⟩ := ih (byS lo hi acc s) (i + 1) (by omega) (by omega) (by omega)
    unfold series_Beyond_l1 at r1 ⊢
    unfold Q_BeyondOf_l1 at r2 ⊢
    rw [iter_eq, series_Beyond_b1, if_pos (by simp only; omega), iter_eq, Q_BeyondOf_b1, if_pos (by simp; omega), hd]
    simp only [hs, hs', Option.bind_some, w2, byL, cv]
    unfold series_Beyond_j1 series_Beyond_j2 series_Beyond_j3 Q_BeyondOf_j1 Q_BeyondOf_j2
    unfold series_Beyond_j1 Q_BeyondOf_j1
    rw [w1, w2, Out_or, Qin_eq]
    unfold byS at r1 r2 ⊢
    by_cases hc : lo ≤ s.value_ ∧ s.value_ ≤ hi
    · rw [if_pos hc] at r1 r2 ⊢
      rw [if_pos (by simp; omega), if_pos (by simpa using hc)]
      simp only [Option.bind_some, after_inl]
      exact ⟨r1, r2⟩
    · rw [if_neg hc] at r1 r2 ⊢
      have hb : (!decide (s.value_ < lo ∨ hi < s.value_)) = false := by simp; omega
      have hq : (decide (lo ≤ s.value_) && decide (s.value_ ≤ hi)) = false := by simp; omega
      simp only [hb, hq, Bool.false_eq_true, if_false]
      by_cases hk : (0 : Int) ≤ acc.length - 1
      · obtain ⟨v, hv, _, _⟩ := idx_lt acc hk (by omega)
        simp only [hk, if_true, hv, Option.bind_some, decide_eq_true_eq] at r1 r2 ⊢
        by_cases he : v.To = s.from_
        · simp only [he, if_true, Option.bind_some, after_inl] at r1 r2 ⊢
          exact ⟨r1, r2⟩
        · simp only [he, if_false] at r1 r2 ⊢
          rw [app_le (by simp; omega)]
          simp only [Option.bind_some, after_inl]
          exact ⟨r1, r2⟩
      · simp only [hk, if_false, idx_none (xs := acc) (i := (acc.length : Int) - 1) (by omega)] at r1 r2 ⊢
        rw [app_le (by simp; omega)]
        simp only [Option.bind_some, after_inl]
        exact ⟨r1, r2⟩
end Go.Beacon
