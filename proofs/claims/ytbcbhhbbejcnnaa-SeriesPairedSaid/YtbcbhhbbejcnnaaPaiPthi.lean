/- Thin against its reference, and the law SeriesPaired. No program in sight. -/
import Derived.Test.YtbcbhhbbejcnnaaPaiPpai
set_option linter.unusedVariables false
set_option linter.unusedSimpArgs false
namespace Go.Beacon
open Go Go.Eng

/-! sums -/
def sumA : List Sample → Int
  | [] => 0
  | x :: r => x.At + sumA r
def sumV : List Sample → Int
  | [] => 0
  | x :: r => x.Value + sumV r
theorem sumA_bd {lo hi : Int} : ∀ xs : List Sample, (∀ x ∈ xs, lo ≤ x.At ∧ x.At ≤ hi) → lo * xs.length ≤ sumA xs ∧ sumA xs ≤ hi * xs.length
  | [], _ => by simp [sumA]
  | x :: r, h => by
    have ih := sumA_bd r (fun y hy => h y (by simp [hy]))
    have := h x (by simp)
    simp only [sumA, List.length_cons, Int.natCast_add, Int.mul_add, Int.natCast_one, Int.mul_one] at *
    omega
theorem sumV_bd {lo hi : Int} : ∀ xs : List Sample, (∀ x ∈ xs, lo ≤ x.Value ∧ x.Value ≤ hi) → lo * xs.length ≤ sumV xs ∧ sumV xs ≤ hi * xs.length
  | [], _ => by simp [sumV]
  | x :: r, h => by
    have ih := sumV_bd r (fun y hy => h y (by simp [hy]))
    have := h x (by simp)
    simp only [sumV, List.length_cons, Int.natCast_add, Int.mul_add, Int.natCast_one, Int.mul_one] at *
    omega
theorem avg_bd {s lo hi n : Int} (hn : 0 < n) (h : lo * n ≤ s ∧ s ≤ hi * n) : lo ≤ s / n ∧ s / n ≤ hi := by
  refine ⟨(Int.le_ediv_iff_mul_le hn).2 h.1, ?_⟩
  have : s / n < hi + 1 := (Int.ediv_lt_iff_lt_mul hn).2 (by rw [Int.add_mul]; omega)
  omega
structure Sane (xs : List Sample) : Prop where
  len : (xs.length : Int) ≤ 5000
  at_ : ∀ s ∈ xs, 0 ≤ s.At ∧ s.At ≤ 345686399999
  val : ∀ s ∈ xs, -1000000000 ≤ s.Value ∧ s.Value ≤ 1000000000
theorem Sane.sub {xs ys : List Sample} (h : Sane xs) (hs : ∀ y ∈ ys, y ∈ xs) (hl : ys.length ≤ xs.length) : Sane ys :=
  ⟨by have := h.len; omega, fun s hm => h.at_ s (hs s hm), fun s hm => h.val s (hs s hm)⟩
def mid (xs : List Sample) : Sample := ⟨[], [], sumA xs / xs.length, sumV xs / xs.length⟩
theorem sane_sum {xs : List Sample} (h : Sane xs) : (0 ≤ sumA xs ∧ sumA xs ≤ 345686399999 * 5000) ∧ (-1000000000 * 5000 ≤ sumV xs ∧ sumV xs ≤ 1000000000 * 5000) := by
  have a := sumA_bd xs h.at_
  have b := sumV_bd xs h.val
  have l := h.len
  constructor <;> omega
theorem middle_eq (xs : List Sample) (h : Sane xs) (hp : 0 < xs.length) : series_middle xs = some (mid xs) := by
  unfold series_middle series_middle_l1
  have l := h.len
  refine iter_to _ (fun s : Int × Int × Int => ((xs.length : Int) - s.2.2).toNat) (fun s : Int × Int × Int => 0 ≤ s.2.2 ∧ s.2.2 ≤ xs.length ∧ s.1 + sumA (xs.drop s.2.2.toNat) = sumA xs ∧ s.2.1 + sumV (xs.drop s.2.2.toNat) = sumV xs) _ ?_ _ ⟨by simp, by simp, by simp, by simp⟩
  rintro ⟨a, v, i⟩ ⟨h0, h1, h2, h3⟩
  simp only at h0 h1 h2 h3 ⊢
  have hs := sane_sum h
  unfold series_middle_b1
  have hsd := sane_sum (h.sub (ys := xs.drop i.toNat) (fun y hy => List.mem_of_mem_drop hy) (by simp))
  by_cases hi : i < xs.length
  · rw [if_pos hi]
    obtain ⟨x, hx, hxm, hd⟩ := idx_lt xs h0 hi
    have b1 := h.at_ x hxm; have b2 := h.val x hxm
    have hsd2 := sane_sum (h.sub (ys := xs.drop (i + 1).toNat) (fun y hy => List.mem_of_mem_drop hy) (by simp))
    rw [hd] at h2 h3
    simp only [sumA, sumV] at h2 h3
    simp only [hx, Option.bind_some]
    rw [w64_in (x := a + x.At) (by omega) (by omega), w64_in (x := v + x.Value) (by omega) (by omega), w64_in (x := i + 1) (by omega) (by omega)]
    exact .inl ⟨_, rfl, ⟨by simp only; omega, by simp only; omega, by simp only; omega, by simp only; omega⟩, by simp only; omega⟩
  · rw [if_neg hi]
    right
    rw [List.drop_of_length_le (by omega)] at h2 h3
    simp only [sumA, sumV] at h2 h3
    unfold series_middle_k1
    rw [quo_pos (by omega) (by omega) (by omega), Down_eq (by omega) (by omega)]
    simp only [Option.bind_some]
    unfold mid
    rw [show a = sumA xs by omega, show v = sumV xs by omega]
theorem ref_mid (l : List Sample) (many : Int) (out : List Sample) (k : Int) (xs : List Sample) (h : Sane xs) (hp : 0 < xs.length) : Q_ThinOf_l2 l many out k xs 0 0 0 = Q_ThinOf_j1 l many out k (mid xs).At (mid xs).Value := by
  unfold Q_ThinOf_l2
  have len := h.len
  refine iter_to _ (fun s : Int × Int × Int => ((xs.length : Int) - s.2.2).toNat) (fun s : Int × Int × Int => 0 ≤ s.2.2 ∧ s.2.2 ≤ xs.length ∧ s.1 + sumA (xs.drop s.2.2.toNat) = sumA xs ∧ s.2.1 + sumV (xs.drop s.2.2.toNat) = sumV xs) _ ?_ _ ⟨by simp, by simp, by simp, by simp⟩
  rintro ⟨a, v, i⟩ ⟨h0, h1, h2, h3⟩
  simp only at h0 h1 h2 h3 ⊢
  have hs := sane_sum h
  unfold Q_ThinOf_b2
  by_cases hi : i < xs.length
  · rw [if_pos hi]
    obtain ⟨x, hx, hxm, hd⟩ := idx_lt xs h0 hi
    have b1 := h.at_ x hxm; have b2 := h.val x hxm
    have hsd2 := sane_sum (h.sub (ys := xs.drop (i + 1).toNat) (fun y hy => List.mem_of_mem_drop hy) (by simp))
    rw [hd] at h2 h3
    simp only [sumA, sumV] at h2 h3
    simp only [hx, Option.bind_some]
    rw [w64_in (x := a + x.At) (by omega) (by omega), w64_in (x := v + x.Value) (by omega) (by omega), w64_in (x := i + 1) (by omega) (by omega)]
    exact .inl ⟨_, rfl, ⟨by simp only; omega, by simp only; omega, by simp only; omega, by simp only; omega⟩, by simp only; omega⟩
  · rw [if_neg hi]
    right
    rw [List.drop_of_length_le (by omega)] at h2 h3
    simp only [sumA, sumV] at h2 h3
    unfold Q_ThinOf_k2
    rw [floor_eq (by omega) (by omega), floor_eq (by omega) (by omega)]
    simp only [Option.bind_some]
    unfold mid
    rw [show a = sumA xs by omega, show v = sumV xs by omega]

/-! the greatest area -/
def mA (f : Sample → Int) : List Sample → Sample → Int → Sample
  | [], b, _ => b
  | x :: r, b, m => if m < f x then mA f r x (f x) else mA f r b m
theorem prog_best (out : List Sample) (k : Int) (last next : Sample) (xs : List Sample) (hl : (xs.length : Int) ≤ 5000) : ∀ (n : Nat) (b : Sample) (m i : Int), 0 ≤ i → i + n = xs.length →
    series_Thin_l2 out k last next xs b.Device b.Metric b.At b.Value m i = (let r := mA (fun s => series_area last s next) (xs.drop i.toNat) b m; series_Thin_k2 out k r.Device r.Metric r.At r.Value) := by
  intro n
  induction n with
  | zero =>
    intro b m i h0 h1
    unfold series_Thin_l2
    rw [iter_eq, series_Thin_b2, if_neg (by simp only; omega), map_inr_after, List.drop_of_length_le (by omega)]
    rfl
  | succ n ih =>
    intro b m i h0 h1
    obtain ⟨x, hx, hxm, hd⟩ := idx_lt xs h0 (by omega)
    have w1 : w64 (i + 1) = i + 1 := by rw [w64_in] <;> omega
    unfold series_Thin_l2 at ih ⊢
    rw [iter_eq, series_Thin_b2, if_pos (by simp only; omega), hd]
    simp only [hx, Option.bind_some, mA]
    unfold series_Thin_j1
    rw [w1]
    by_cases hc : m < series_area last x next
    · rw [if_pos hc, if_pos hc]
      simp only [Option.bind_some, after_inl]
      exact ih x _ (i + 1) (by omega) (by omega)
    · rw [if_neg hc, if_neg hc]
      simp only [Option.bind_some, after_inl]
      exact ih b m (i + 1) (by omega) (by omega)
def fst (n many k : Int) : Int := 1 + k * (n - 2) / (many - 2)
theorem area_ref (last s : Sample) (na nv : Int) (next : Sample) (h1 : next.At = na) (h2 : next.Value = nv) :
    max (w64 ((w64 ((w64 (s.At - last.At)) * (w64 (nv - last.Value)))) - (w64 ((w64 (s.Value - last.Value)) * (w64 (na - last.At)))))) (w64 (-(w64 ((w64 ((w64 (s.At - last.At)) * (w64 (nv - last.Value)))) - (w64 ((w64 (s.Value - last.Value)) * (w64 (na - last.At)))))))) = series_area last s next := by
  unfold series_area
  rw [← h1, ← h2, Int.mul_comm (w64 (s.Value - last.Value))]
theorem ref_best (l : List Sample) (hl : (l.length : Int) ≤ 5000) (many : Int) (out : List Sample) (k : Int) (last next : Sample) (hi : Int) (h1x : Q_ThinOf_1x (w64 (k + 1)) l.length many = some hi) (hhi : hi ≤ l.length) : ∀ (n : Nat) (bi : Int) (b : Sample) (m i : Int), 0 ≤ i → i + n = hi → idx l bi = some b →
    Q_ThinOf_l3 l many out k next.At next.Value last bi m i = ((app out [mA (fun s => series_area last s next) ((l.drop i.toNat).take n) b m]).bind fun l48 => some (.inl (l48, w64 (k + 1)))) := by
  intro n
  induction n with
  | zero =>
    intro bi b m i h0 h1 hb
    unfold Q_ThinOf_l3
    rw [iter_eq, Q_ThinOf_b3, h1x]
    simp only [Option.bind_some]
    rw [if_neg (by omega), map_inr_after]
    unfold Q_ThinOf_k4
    simp only [hb, Option.bind_some, List.take_zero, mA]
  | succ n ih =>
    intro bi b m i h0 h1 hb
    obtain ⟨x, hx, hxm, hd⟩ := idx_lt l h0 (by omega)
    have w1 : w64 (i + 1) = i + 1 := by rw [w64_in] <;> omega
    unfold Q_ThinOf_l3 at ih ⊢
    rw [iter_eq, Q_ThinOf_b3, h1x]
    simp only [Option.bind_some]
    rw [if_pos (by omega), hd]
    simp only [hx, Option.bind_some, List.take_succ_cons, mA]
    rw [area_ref last x next.At next.Value next rfl rfl]
    unfold Q_ThinOf_j3
    rw [w1]
    by_cases hc : m < series_area last x next
    · rw [if_pos hc, if_pos hc]
      simp only [Option.bind_some, after_inl]
      exact ih i x _ (i + 1) (by omega) (by omega) hx
    · rw [if_neg hc, if_neg hc]
      simp only [Option.bind_some, after_inl]
      exact ih bi b m (i + 1) (by omega) (by omega) hb
theorem first_eq {n many k : Int} (hm : 3 ≤ many) (hn : many < n) (hl : n ≤ 5000) (hk : 0 ≤ k ∧ k ≤ many) : Q_ThinOf_1x k n many = some (fst n many k) := by
  unfold Q_ThinOf_1x fst
  have b := mul_bd (a := k) (b := n - 2) (A := 5000) (B := 5000) (by omega) (by omega) (by omega) (by omega)
  have b0 : 0 ≤ k * (n - 2) := Int.mul_nonneg (by omega) (by omega)
  rw [w64_in (x := n - 2) (by omega) (by omega), w64_in (x := many - 2) (by omega) (by omega), w64_in (x := k * (n - 2)) (by omega) (by omega), quo_pos (by omega) b0 (by omega)]
  simp only [Option.bind_some]
  have := Int.ediv_nonneg b0 (show 0 ≤ many - 2 by omega)
  have := Int.ediv_le_self (many - 2) b0
  rw [w64_in (by omega) (by omega)]
theorem fst_step {n many k : Int} (hm : 3 ≤ many) (hn : many < n) (hk : 0 ≤ k) : 1 ≤ fst n many k ∧ fst n many k + 1 ≤ fst n many (k + 1) := by
  unfold fst
  have b0 : 0 ≤ k * (n - 2) := Int.mul_nonneg (by omega) (by omega)
  have := Int.ediv_nonneg b0 (show 0 ≤ many - 2 by omega)
  refine ⟨by omega, ?_⟩
  have h : k * (n - 2) / (many - 2) + 1 ≤ (k + 1) * (n - 2) / (many - 2) := by
    rw [← Int.add_mul_ediv_right _ _ (show many - 2 ≠ 0 by omega)]
    exact Int.ediv_le_ediv (by omega) (by rw [Int.add_mul]; omega)
  omega
theorem fst_end {n many : Int} (hm : 3 ≤ many) : fst n many (many - 2) = n - 1 := by
  unfold fst
  rw [Int.mul_ediv_cancel_left _ (by omega)]; omega
theorem fst_mono {n many k j : Int} (hm : 3 ≤ many) (hn : many < n) (hk : 0 ≤ k) (hj : k ≤ j) : fst n many k ≤ fst n many j := by
  have h : ∀ d : Nat, fst n many k ≤ fst n many (k + d) := by
    intro d
    induction d with
    | zero => simp
    | succ d ih =>
      have := (fst_step hm hn (show 0 ≤ k + d by omega)).2
      rw [show k + ((d + 1 : Nat) : Int) = k + d + 1 by omega]; omega
  have := h (j - k).toNat
  rw [show k + ((j - k).toNat : Int) = j by omega] at this
  exact this
def sub (l : List Sample) (many k : Int) : List Sample := (l.drop (fst l.length many k).toNat).take ((fst l.length many (k + 1)).toNat - (fst l.length many k).toNat)
theorem slc_sub {l : List Sample} {many k : Int} (hm : 3 ≤ many) (hn : many < l.length) (hk : 0 ≤ k ∧ k ≤ many - 3) : slc l (fst l.length many k) (fst l.length many (k + 1)) = some (sub l many k) := by
  have a := fst_step hm hn hk.1
  have b := fst_mono hm hn (show 0 ≤ k + 1 by omega) (show k + 1 ≤ many - 2 by omega)
  rw [fst_end hm] at b
  rw [slc_in (by omega) (by omega) (by omega)]; rfl
theorem sub_facts {l : List Sample} {many k : Int} (hm : 3 ≤ many) (hn : many < l.length) (hk : 0 ≤ k ∧ k ≤ many - 3) : 0 < (sub l many k).length ∧ (sub l many k).length ≤ l.length ∧ ∀ x ∈ sub l many k, x ∈ l := by
  have a := fst_step hm hn hk.1
  have b := fst_mono hm hn (show 0 ≤ k + 1 by omega) (show k + 1 ≤ many - 2 by omega)
  rw [fst_end hm] at b
  unfold sub
  refine ⟨by simp; omega, by simp; omega, fun x hx => List.mem_of_mem_drop (List.mem_of_mem_take hx)⟩
def part (l : List Sample) (many k : Int) (z : Sample) : List Sample := if many - 3 < k then [z] else sub l many k
theorem slc_last {l : List Sample} {z : Sample} (hz : idx l (l.length - 1) = some z) : slc l (l.length - 1) l.length = some [z] := by
  obtain ⟨h0, h1, h2⟩ := idx_some hz
  rw [slc_in (by omega) (by omega) (by omega), idx_drop hz, show ((l.length : Int)).toNat - ((l.length : Int) - 1).toNat = 1 by omega]
  simp
theorem part_eq {l : List Sample} {many k : Int} {z : Sample} (hl : (l.length : Int) ≤ 5000) (hm : 3 ≤ many) (hn : many < l.length) (hk : 0 ≤ k ∧ k ≤ many) (hz : idx l (l.length - 1) = some z) : series_Thin_1x k many l l.length = some (part l many k z) := by
  unfold series_Thin_1x part
  have b := mul_bd (a := k) (b := l.length - 2) (A := 5000) (B := 5000) (by omega) (by omega) (by omega) (by omega)
  have b0 : 0 ≤ k * ((l.length : Int) - 2) := Int.mul_nonneg (by omega) (by omega)
  have b' := mul_bd (a := k + 1) (b := l.length - 2) (A := 5001) (B := 5000) (by omega) (by omega) (by omega) (by omega)
  have b0' : 0 ≤ (k + 1) * ((l.length : Int) - 2) := Int.mul_nonneg (by omega) (by omega)
  rw [w64_in (x := many - 3) (by omega) (by omega)]
  by_cases hc : many - 3 < k
  · rw [if_pos hc, if_pos hc, w64_in (by omega) (by omega), slc_last hz]; rfl
  · rw [if_neg hc, if_neg hc, w64_in (x := (l.length : Int) - 2) (by omega) (by omega), w64_in (x := many - 2) (by omega) (by omega), w64_in (x := k * _) (by omega) (by omega), w64_in (x := k + 1) (by omega) (by omega), w64_in (x := (k + 1) * _) (by omega) (by omega), quo_pos (by omega) b0 (by omega), quo_pos (by omega) b0' (by omega)]
    simp only [Option.bind_some]
    have q1 := Int.ediv_nonneg b0 (show 0 ≤ many - 2 by omega)
    have q2 := Int.ediv_le_self (many - 2) b0
    have q3 := Int.ediv_nonneg b0' (show 0 ≤ many - 2 by omega)
    have q4 := Int.ediv_le_self (many - 2) b0'
    rw [w64_in (by omega) (by omega), w64_in (by omega) (by omega)]
    have := slc_sub hm hn (k := k) (by omega)
    unfold fst at this
    rw [this]; rfl
theorem part_facts {l : List Sample} {many k : Int} {z : Sample} (hm : 3 ≤ many) (hn : many < l.length) (hk : 0 ≤ k) (hz : idx l (l.length - 1) = some z) : 0 < (part l many k z).length ∧ (part l many k z).length ≤ l.length ∧ ∀ x ∈ part l many k z, x ∈ l := by
  unfold part
  split
  · refine ⟨by simp, by simp; omega, fun x hx => ?_⟩
    simp only [List.mem_singleton] at hx
    rw [hx]; exact idx_mem hz
  · exact sub_facts hm hn (by omega)
theorem area_nonneg {last s next : Sample} {L : Int} (h1 : L ≤ last.At ∧ last.At ≤ L + 864000000) (h2 : L ≤ s.At ∧ s.At ≤ L + 864000000) (h3 : L ≤ next.At ∧ next.At ≤ L + 864000000) (hL : 0 ≤ L ∧ L ≤ 345686399999)
    (v1 : -1000000000 ≤ last.Value ∧ last.Value ≤ 1000000000) (v2 : -1000000000 ≤ s.Value ∧ s.Value ≤ 1000000000) (v3 : -1000000000 ≤ next.Value ∧ next.Value ≤ 1000000000) : 0 ≤ series_area last s next := by
  unfold series_area
  have b1 := mul_bd (a := s.At - last.At) (b := next.Value - last.Value) (A := 864000000) (B := 2000000000) (by omega) (by omega) (by omega) (by omega)
  have b2 := mul_bd (a := next.At - last.At) (b := s.Value - last.Value) (A := 864000000) (B := 2000000000) (by omega) (by omega) (by omega) (by omega)
  rw [w64_in (x := s.At - last.At) (by omega) (by omega), w64_in (x := next.Value - last.Value) (by omega) (by omega), w64_in (x := next.At - last.At) (by omega) (by omega), w64_in (x := s.Value - last.Value) (by omega) (by omega), w64_in (x := (s.At - last.At) * _) (by omega) (by omega), w64_in (x := (next.At - last.At) * _) (by omega) (by omega)]
  rw [w64_in (x := _ - _) (by omega) (by omega), w64_in (by omega) (by omega)]
  omega
theorem mA_mem (f : Sample → Int) : ∀ (xs : List Sample) (b : Sample) (m : Int), mA f xs b m = b ∨ mA f xs b m ∈ xs
  | [], b, m => .inl rfl
  | x :: r, b, m => by
    simp only [mA]
    split
    · rcases mA_mem f r x (f x) with h | h
      · exact .inr (by rw [h]; simp)
      · exact .inr (by simp [h])
    · rcases mA_mem f r b m with h | h
      · exact .inl h
      · exact .inr (by simp [h])
theorem thin_loop (l : List Sample) (many : Int) (hS : Sane l) (hm : 3 ≤ many) (hn : many < l.length) (z : Sample) (hz : idx l (l.length - 1) = some z) (L : Int) (hL : 0 ≤ L ∧ L ≤ 345686399999) (hB : ∀ x ∈ l, L ≤ x.At ∧ x.At ≤ L + 864000000) :
    ∀ (n : Nat) (out : List Sample) (k : Int), 0 ≤ k → k + n = many - 2 → (out.length : Int) = k + 1 → (∀ y ∈ out, y ∈ l) → ∃ r, series_Thin_l1 l many out k = some (r, 0) ∧ Q_ThinOf_l1 l many out k = some (r, 0) ∧ (r.length : Int) ≤ 6000 := by
  have hl := hS.len
  intro n
  induction n with
  | zero =>
    intro out k h0 h1 h2 h3
    unfold series_Thin_l1 Q_ThinOf_l1
    have w1 : w64 (many - 2) = many - 2 := by rw [w64_in] <;> omega
    have w2 : w64 ((l.length : Int) - 1) = l.length - 1 := by rw [w64_in] <;> omega
    rw [iter_eq, series_Thin_b1, if_neg (by simp only [w1]; omega), map_inr_after, iter_eq, Q_ThinOf_b1, if_neg (by simp only [w1]; omega), map_inr_after]
    unfold series_Thin_k3 Q_ThinOf_k5
    simp only [w2, hz, Option.bind_some]
    rw [app_le (by simp; omega)]
    exact ⟨_, rfl, rfl, by simp; omega⟩
  | succ n ih =>
    intro out k h0 h1 h2 h3
    have w1 : w64 (many - 2) = many - 2 := by rw [w64_in] <;> omega
    have w2 : w64 ((l.length : Int) - 1) = l.length - 1 := by rw [w64_in] <;> omega
    have w3 : w64 ((out.length : Int) - 1) = out.length - 1 := by rw [w64_in] <;> omega
    have w4 : w64 (k + 1) = k + 1 := by rw [w64_in] <;> omega
    have w5 : w64 (k + 2) = k + 2 := by rw [w64_in] <;> omega
    have w6 : w64 (many - 3) = many - 3 := by rw [w64_in] <;> omega
    obtain ⟨last, hlast, hlm, _⟩ := idx_lt out (i := (out.length : Int) - 1) (by omega) (by omega)
    have hlast' := h3 last hlm
    obtain ⟨p1, p2, p3⟩ := part_facts hm hn (show 0 ≤ k + 1 by omega) hz
    obtain ⟨s1, s2, s3⟩ := sub_facts hm hn (show 0 ≤ k ∧ k ≤ many - 3 by omega)
    have hSp : Sane (part l many (k + 1) z) := hS.sub p3 p2
    have hpk : part l many k z = sub l many k := by unfold part; rw [if_neg (by omega)]
    have hf := fst_step hm hn h0
    have hfe := fst_mono hm hn (show 0 ≤ k + 1 by omega) (show k + 1 ≤ many - 2 by omega)
    rw [fst_end hm] at hfe
    -- the next middle
    have hmA : L ≤ (mid (part l many (k + 1) z)).At ∧ (mid (part l many (k + 1) z)).At ≤ L + 864000000 :=
      avg_bd (by omega) (sumA_bd _ (fun x hx => hB x (p3 x hx)))
    have hmV : -1000000000 ≤ (mid (part l many (k + 1) z)).Value ∧ (mid (part l many (k + 1) z)).Value ≤ 1000000000 :=
      avg_bd (by omega) (sumV_bd _ (fun x hx => hS.val x (p3 x hx)))
    generalize hnext : mid (part l many (k + 1) z) = next at hmA hmV
    -- the first of the part
    obtain ⟨x, hx, hxm, hd⟩ := idx_lt l (i := fst l.length many k) (by omega) (by omega)
    have hsub : sub l many k = x :: (l.drop (fst l.length many k + 1).toNat).take ((fst l.length many (k + 1)).toNat - (fst l.length many k).toNat - 1) := by
      unfold sub
      rw [hd]
      obtain ⟨q, hq⟩ : ∃ q, (fst l.length many (k + 1)).toNat - (fst l.length many k).toNat = q + 1 := ⟨(fst l.length many (k + 1)).toNat - (fst l.length many k).toNat - 1, by omega⟩
      rw [hq]; rfl
    generalize hrest : (l.drop (fst l.length many k + 1).toNat).take ((fst l.length many (k + 1)).toNat - (fst l.length many k).toNat - 1) = rest at hsub
    have harea : (-1 : Int) < series_area last x next := by
      have := area_nonneg (hB last hlast') (hB x hxm) hmA hL (hS.val last hlast') (hS.val x hxm) hmV; omega
    have key : ∀ r, r = mA (fun s => series_area last s next) rest x (series_area last x next) → r ∈ l := by
      rintro r rfl
      rcases mA_mem (fun s => series_area last s next) rest x (series_area last x next) with h | h
      · rw [h]; exact hxm
      · exact s3 _ (by rw [hsub]; simp [h])
    obtain ⟨r, hr1, hr2, hr3⟩ := ih (out ++ [mA (fun s => series_area last s next) rest x (series_area last x next)]) (k + 1) (by omega) (by omega) (by simp; omega) (by
      intro y hy
      rcases List.mem_append.1 hy with h | h
      · exact h3 y h
      · simp only [List.mem_singleton] at h; exact key y h)
    refine ⟨r, ?_, ?_, hr3⟩
    · unfold series_Thin_l1 at hr1 ⊢
      rw [iter_eq, series_Thin_b1, if_pos (by simp only [w1]; omega)]
      simp only [w3, w4, hlast, Option.bind_some]
      rw [part_eq hl hm hn (by omega) hz]
      simp only [Option.bind_some]
      rw [middle_eq _ hSp p1, hnext, part_eq hl hm hn (by omega) hz, hpk]
      simp only [Option.bind_some]
      have hb := prog_best out k last next (sub l many k) (by omega) (sub l many k).length ⟨[], [], 0, 0⟩ (-1) 0 (by omega) (by omega)
      simp only at hb
      rw [hb]
      simp only [Int.toNat_zero, List.drop_zero]
      rw [hsub]
      simp only [mA, if_pos harea]
      unfold series_Thin_k2
      rw [app_le (by simp; omega)]
      simp only [Option.bind_some, after_inl, w4]
      exact hr1
    · unfold Q_ThinOf_l1 at hr2 ⊢
      rw [iter_eq, Q_ThinOf_b1, if_pos (by simp only [w1]; omega)]
      simp only [w2, w4, w5, w6, hz, Option.bind_some]
      have hj : Q_ThinOf_j1 l many out k next.At next.Value = some (.inl (out ++ [mA (fun s => series_area last s next) rest x (series_area last x next)], k + 1)) := by
        unfold Q_ThinOf_j1
        rw [w3]
        simp only [hlast, Option.bind_some]
        rw [first_eq hm hn hl (by omega)]
        simp only [Option.bind_some]
        have h1x : Q_ThinOf_1x (w64 (k + 1)) l.length many = some (fst l.length many (k + 1)) := by rw [w4]; exact first_eq hm hn hl (by omega)
        have hb := ref_best l hl many out k last next _ h1x (by omega) ((fst l.length many (k + 1)).toNat - (fst l.length many k).toNat - 1) (fst l.length many k) x (series_area last x next) (fst l.length many k + 1) (by omega) (by omega) hx
        unfold Q_ThinOf_l3 at hb ⊢
        rw [iter_eq, Q_ThinOf_b3, h1x]
        simp only [Option.bind_some]
        rw [if_pos (by omega)]
        simp only [hx, Option.bind_some]
        rw [area_ref last x next.At next.Value next rfl rfl, if_pos harea]
        unfold Q_ThinOf_j3
        rw [w64_in (x := fst _ _ _ + 1) (by omega) (by omega)]
        simp only [Option.bind_some, after_inl]
        rw [hb, hrest, app_le (by simp; omega), w4]; rfl
      by_cases hc : k < many - 3
      · rw [if_pos hc, first_eq hm hn hl (by omega), first_eq hm hn hl (by omega)]
        simp only [Option.bind_some]
        have hsl := slc_sub hm hn (k := k + 1) (by omega)
        rw [show k + 1 + 1 = k + 2 by omega] at hsl
        have hpp : part l many (k + 1) z = sub l many (k + 1) := by unfold part; rw [if_neg (by omega)]
        rw [hsl]
        simp only [Option.bind_some]
        rw [← hpp, ref_mid l many out k _ hSp p1, hnext, hj]
        simp only [Option.bind_some, after_inl]
        exact hr2
      · rw [if_neg hc]
        have hpp : part l many (k + 1) z = [z] := by unfold part; rw [if_pos (by omega)]
        have e1 : next.At = z.At := by rw [← hnext, hpp]; simp [mid, sumA]
        have e2 : next.Value = z.Value := by rw [← hnext, hpp]; simp [mid, sumV]
        rw [← e1, ← e2, hj]
        simp only [Option.bind_some, after_inl]
        exact hr2
def eT (a : List Sample) (many : Int) : Int := orL [chkS a, if many < 3 ∨ 5000 < many then 1 else 0]
def eQ (a b : List Sample) (most : Int) : Int := orL [chkS a, chkS b, if most < 0 ∨ 345686400000 < most then 1 else 0]
theorem sane_good {a : List Sample} (h : Good a) : Sane a := ⟨h.len, h.at_, h.val⟩
theorem Out_or (n lo hi : Int) : base_Out n lo hi = decide (n < lo ∨ hi < n) := by rw [Out_eq]; simp
theorem thin_law (a : List Sample) (many : Int) (hl : (a.length : Int) ≤ 20) : ∃ t : List Sample × Int, series_Thin a many = some t ∧ (t.1.length : Int) ≤ 6000 ∧ (if eT a many = 0 then Q_ThinOf a many = some t else t = ([], eT a many)) := by
  unfold series_Thin eT
  rw [CheckSeries_eq, orL2]
  simp only [Option.bind_some]
  by_cases h1 : chkS a = 0
  · simp only [h1, ne_eq, not_true_eq_false, if_false, Out_or]
    have g := chkS_good h1
    by_cases h2 : many < 3 ∨ 5000 < many
    · simp only [h2, decide_true, if_true]
      exact ⟨_, rfl, by simp, by simp⟩
    · simp only [h2, decide_false, if_false, Bool.false_eq_true]
      unfold Q_ThinOf
      by_cases h3 : (a.length : Int) ≤ many
      · have hc : slices_Clone_Sample_Sample a = some a := by unfold slices_Clone_Sample_Sample; rw [app_le (by simp; omega)]; simp
        simp only [if_pos h3, hc, Option.bind_some, if_true]
        exact ⟨_, rfl, by simp only; omega, rfl⟩
      · simp only [if_neg h3]
        have w1 : w64 ((a.length : Int) - 1) = a.length - 1 := by rw [w64_in] <;> omega
        obtain ⟨z, hz, hzm, _⟩ := idx_lt a (i := (a.length : Int) - 1) (by omega) (by omega)
        obtain ⟨y, hy, hym, _⟩ := idx_lt a (i := 0) (by omega) (by omega)
        simp only [w1, hz, hy, Option.bind_some, if_true]
        have b1 := g.at_ z hzm; have b2 := g.at_ y hym
        rw [w64_in (by omega) (by omega)]
        by_cases h4 : 864000000 < z.At - y.At
        · rw [if_pos h4, if_pos h4]
          exact ⟨_, rfl, by simp, rfl⟩
        · rw [if_neg h4, if_neg h4]
          have hB : ∀ x ∈ a, y.At ≤ x.At ∧ x.At ≤ y.At + 864000000 := by
            intro x hx
            obtain ⟨i, hi, rfl⟩ := List.getElem_of_mem hx
            have hxi : idx a i = some a[i] := by unfold idx; simp [hi]
            rw [← atOf_eq hxi]
            have hay := atOf_eq hy
            have haz := atOf_eq hz
            constructor
            · by_cases h0 : (i : Int) = 0
              · rw [h0]; omega
              · have := atOf_lt g.up (i := 0) (j := i) (by omega) (by omega) (by omega); omega
            · by_cases h0 : (i : Int) = a.length - 1
              · rw [h0]; omega
              · have := atOf_lt g.up (i := i) (j := a.length - 1) (by omega) (by omega) (by omega); omega
          obtain ⟨r, r1, r2, r3⟩ := thin_loop a many (sane_good g) (by omega) (by omega) z hz y.At b2 hB (many - 2).toNat [y] 0 (by omega) (by omega) (by simp) (by simpa using hym)
          exact ⟨_, r1, r3, r2⟩
  · simp only [ne_eq, h1, not_false_eq_true, if_true, if_false]
    exact ⟨_, rfl, by simp, rfl⟩
theorem pair_law (a b : List Sample) (hA : ∀ x ∈ a, SampB x) (hB : ∀ x ∈ b, SampB x) (most : Int) (hla : (a.length : Int) ≤ 20) (hlb : (b.length : Int) ≤ 20) : ∃ t : List Pairing × Int, series_Pair a b most = some t ∧ (t.1.length : Int) ≤ 6000 ∧ (if eQ a b most = 0 then Q_PairsOf a b most = some t.1 ∧ t.2 = 0 else t = ([], eQ a b most)) := by
  unfold series_Pair eQ
  rw [CheckSeries_eq, CheckSeries_eq, orL3]
  simp only [Option.bind_some]
  rw [First_eq _ (by simp)]
  simp only [Option.bind_some]
  by_cases h1 : orL [chkS a, chkS b] = 0
  · simp only [h1, ne_eq, not_true_eq_false, if_false, Out_or]
    have g := chkS_good (orL2_zero h1).2
    by_cases h2 : most < 0 ∨ 345686400000 < most
    · simp only [h2, decide_true, if_true]
      exact ⟨_, rfl, by simp, by simp⟩
    · simp only [h2, decide_false, if_false, Bool.false_eq_true]
      obtain ⟨r1, r2⟩ := pairs_loop a b hA hB (by omega) (by omega) g.up most (by omega) a.length [] 0 (by omega) (by omega) (by simp)
      have hp := pairs_len b most a
      refine ⟨_, r1, by simp; omega, ?_⟩
      rw [if_pos trivial]
      exact ⟨r2, rfl⟩
  · simp only [ne_eq, h1, not_false_eq_true, if_true, if_false]
    exact ⟨_, rfl, by simp, rfl⟩
theorem fin_ok (t : List Pairing × Int) (u : List Sample × Int) (h1 : (t.1.length : Int) ≤ 6000) (h2 : (u.1.length : Int) ≤ 6000) : L_SeriesPaired_j4 t u t.2 t.1 u.2 u.1 = some true := by
  unfold L_SeriesPaired_j4 L_SeriesPaired_j5
  have q1 : slices_Equal_Pairing_Pairing t.1 t.1 = some (decide (t.1 = t.1)) := gEqual_eq t.1 t.1 (by omega)
  have q2 : slices_Equal_Sample_Sample u.1 u.1 = some (decide (u.1 = u.1)) := gEqual_eq u.1 u.1 (by omega)
  simp only [q1, q2, if_true, Option.bind_some, decide_true, measured_eq]
theorem SeriesPaired_plain (l : List Int) : L_SeriesPaired l = some true := by
  unfold L_SeriesPaired
  refine Gen.use (Series_ok (k := 70) ⟨by simp, by simp⟩ (by omega) (by omega)) (fun a s1 ha hs1 => ?_)
  refine Gen.use (Series_ok (k := 9) (hs1.less (by omega)) (by omega) (by omega)) (fun b s2 hb hs2 => ?_)
  refine Gen.use (Pick_ok (k := 8) (hs2.less (by omega)) (by simp) (by simp) (by omega)) (fun most s3 hmost hs3 => ?_)
  refine Gen.use (Pick_ok (k := 7) (hs3.less (by omega)) (by simp) (by simp) (by omega)) (fun many s4 hmany hs4 => ?_)
  have hla : (a.length : Int) ≤ 20 := by have := ha.1; omega
  have hlb : (b.length : Int) ≤ 20 := by have := hb.1; omega
  have hE2 : ∀ x y : Int, L_errs [x, y] = some (orL [x, y]) := fun x y => gOr_eq _ (by simp)
  have hE3 : ∀ x y z : Int, L_errs [x, y, z] = some (orL [x, y, z]) := fun x y z => gOr_eq _ (by simp)
  obtain ⟨t, ht, htl, htq⟩ := pair_law a b ha.2 hb.2 most hla hlb
  obtain ⟨u, hu, hul, huq⟩ := thin_law a many hla
  simp only [ht, hu, SeriesFault_eq a ha.2, SeriesFault_eq b hb.2, hE3, Option.bind_some]
  have j3 : ∀ ps : List Pairing, L_SeriesPaired_j3 (a, s1) (many, s4) t u t.2 (eT a many) ps = L_SeriesPaired_j4 t u t.2 ps u.2 u.1 := by
    intro ps
    unfold L_SeriesPaired_j3
    by_cases h : eT a many = 0
    · rw [if_pos h] at huq ⊢
      rw [huq]; rfl
    · rw [if_neg h] at huq ⊢
      rw [huq]
  have j2 : L_SeriesPaired_j2 (a, s1) (b, s2) (most, s3) (many, s4) t u (eQ a b most) (eT a many) = some true := by
    unfold L_SeriesPaired_j2
    by_cases h : eQ a b most = 0
    · rw [if_pos h] at htq ⊢
      have e := htq.2
      rw [htq.1]
      simp only [Option.bind_some]
      rw [h, ← e, j3]
      exact fin_ok t u htl hul
    · rw [if_neg h] at htq ⊢
      have e1 : t.2 = eQ a b most := by rw [htq]
      have e2 : t.1 = [] := by rw [htq]
      rw [← e1, ← e2, j3]
      exact fin_ok t u htl hul
  have j1 : L_SeriesPaired_j1 (a, s1) (b, s2) (most, s3) (many, s4) t u (eQ a b most) = some true := by
    unfold L_SeriesPaired_j1
    simp only [SeriesFault_eq a ha.2, hE2, Option.bind_some]
    unfold eT at j2
    by_cases c : many < 3
    · rw [if_pos c]
      rw [if_pos (Or.inl c)] at j2
      exact j2
    · rw [if_neg c]
      by_cases c2 : 5000 < many
      · rw [if_pos (Or.inr c2)] at j2
        simpa only [L_when, c2, decide_true, if_true] using j2
      · rw [if_neg (show ¬ (many < 3 ∨ 5000 < many) by omega)] at j2
        simpa only [L_when, c2, decide_false, Bool.false_eq_true, if_false] using j2
  unfold eQ at j1
  by_cases c : most < 0
  · rw [if_pos c]
    rw [if_pos (Or.inl c)] at j1
    exact j1
  · rw [if_neg c]
    by_cases c2 : 345686400000 < most
    · rw [if_pos (Or.inr c2)] at j1
      simpa only [L_when, c2, decide_true, if_true] using j1
    · rw [if_neg (show ¬ (most < 0 ∨ 345686400000 < most) by omega)] at j1
      simpa only [L_when, c2, decide_false, Bool.false_eq_true, if_false] using j1
end Go.Beacon
