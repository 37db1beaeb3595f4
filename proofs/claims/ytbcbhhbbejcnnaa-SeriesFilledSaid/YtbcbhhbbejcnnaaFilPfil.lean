/- The law SeriesFilled as a plain statement. No program in sight. -/
import Derived.Test.YtbcbhhbbejcnnaaFilPser
set_option linter.unusedVariables false
set_option linter.unusedSimpArgs false
set_option linter.unusedSectionVars false
namespace Go.Beacon
open Go Go.Eng

theorem Good.lt {xs : List Sample} (g : Good xs) {i j : Int} {x y : Sample} (hx : idx xs i = some x) (hy : idx xs j = some y) (h : i < j) : x.At < y.At := by
  obtain ⟨a1, a2, a3⟩ := idx_some hx
  obtain ⟨b1, b2, b3⟩ := idx_some hy
  have h1 : i.toNat < xs.length := by omega
  have h2 : j.toNat < xs.length := by omega
  have := List.pairwise_iff_getElem.1 g.up i.toNat j.toNat h1 h2 (by omega)
  rw [List.getElem?_eq_getElem h1] at a3
  rw [List.getElem?_eq_getElem h2] at b3
  rw [Option.some.inj a3, Option.some.inj b3] at this
  exact this

/-- k is the place of the last measurement at or before a moment; -1: there is none. -/
structure IsLast (xs : List Sample) (t k : Int) : Prop where
  ge : -1 ≤ k
  lt : k < xs.length
  le : ∀ j y, j ≤ k → idx xs j = some y → y.At ≤ t
  gt : ∀ j y, k < j → idx xs j = some y → t < y.At
theorem IsLast.uniq {xs : List Sample} {t k k' : Int} (h : IsLast xs t k) (h' : IsLast xs t k') : k = k' := by
  rcases Int.lt_trichotomy k k' with hl | he | hl
  · obtain ⟨y, hy, _, _⟩ := idx_lt xs (i := k') (by have := h.ge; omega) h'.lt
    have := h.gt k' y hl hy; have := h'.le k' y (by omega) hy; omega
  · exact he
  · obtain ⟨y, hy, _, _⟩ := idx_lt xs (i := k) (by have := h'.ge; omega) h.lt
    have := h'.gt k y hl hy; have := h.le k y (by omega) hy; omega

def lineV (x y : Sample) (t : Int) : Int := x.Value + ((y.Value - x.Value) * (t - x.At)) / (y.At - x.At)
def pt (xs : List Sample) (how t k : Int) : List Sample :=
  if k < 0 then [] else match idx xs k with
  | none => []
  | some x => if how = 2 ∧ x.At < t then (match idx xs (k + 1) with
      | none => []
      | some y => if 2592000000 < y.At - x.At then [] else [⟨x.Device, x.Metric, t, lineV x y t⟩])
    else [⟨x.Device, x.Metric, t, x.Value⟩]
theorem pt_len (xs : List Sample) (how t k : Int) : (pt xs how t k).length ≤ 1 := by
  unfold pt
  repeat' split
  all_goals simp

theorem mul_bound {p q P Q : Int} (h1 : -P ≤ p ∧ p ≤ P) (h2 : 0 ≤ q ∧ q ≤ Q) (hP : 0 ≤ P) : -(P * Q) ≤ p * q ∧ p * q ≤ P * Q := by
  have a1 : p * q ≤ P * q := Int.mul_le_mul_of_nonneg_right h1.2 h2.1
  have a2 : P * q ≤ P * Q := Int.mul_le_mul_of_nonneg_left h2.2 hP
  have a3 : (-P) * q ≤ p * q := Int.mul_le_mul_of_nonneg_right h1.1 h2.1
  rw [Int.neg_mul] at a3
  omega
theorem Down_eq {a b : Int} (hb : 0 < b) (ha : -9000000000000000000 ≤ a ∧ a ≤ 9000000000000000000) : base_Down a b = some (a / b) := by
  unfold base_Down base_Down_j1
  have h1 := Int.tmod_add_mul_tdiv a b
  have q1 : -9000000000000000000 ≤ a.tdiv b ∧ a.tdiv b ≤ 9000000000000000000 := by
    rcases Int.le_total 0 a with h | h
    · rw [Int.tdiv_eq_ediv_of_nonneg h]
      have := Int.ediv_nonneg h (Int.le_of_lt hb); have := Int.ediv_le_self b h; omega
    · have e : a.tdiv b = -((-a) / b) := by rw [← Int.tdiv_eq_ediv_of_nonneg (by omega), Int.neg_tdiv]; omega
      rw [e]
      have := Int.ediv_nonneg (a := -a) (by omega) (Int.le_of_lt hb); have := Int.ediv_le_self b (a := -a) (by omega); omega
  rw [quo_ne (by omega), rem_ne (by omega)]
  simp only [Option.bind_some]
  rw [ediv_of_t hb, w64_in (x := a.tdiv b) (by omega) (by omega)]
  split
  · rw [w64_in (by omega) (by omega)]
  · rfl
theorem floor_eq {a b : Int} (hb : 0 < b) (ha : -9000000000000000000 ≤ a ∧ a ≤ 9000000000000000000) : Q_floor a b = some (a / b) := by
  have h := Down_eq hb ha
  unfold base_Down base_Down_j1 at h
  unfold Q_floor
  rw [quo_ne (by omega), rem_ne (by omega)] at *
  simp only [Option.bind_some] at *
  split
  · rename_i h1; rw [if_pos h1] at h; exact h
  · rename_i h1; rw [if_neg h1] at h; exact h
theorem line_bound {v v' t t' a : Int} (hv : -1000000000 ≤ v ∧ v ≤ 1000000000) (hv' : -1000000000 ≤ v' ∧ v' ≤ 1000000000) (h1 : t < a) (h2 : a < t') (h3 : ¬ 2592000000 < t' - t) :
    (-5184000000000000000 ≤ (v' - v) * (a - t) ∧ (v' - v) * (a - t) ≤ 5184000000000000000) ∧ (-2000000000 ≤ (v' - v) * (a - t) / (t' - t) ∧ (v' - v) * (a - t) / (t' - t) ≤ 2000000000) := by
  have b1 := mul_bound (p := v' - v) (q := a - t) (P := 2000000000) (Q := 2592000000) (by omega) (by omega) (by omega)
  have b2 := mul_bound (p := v' - v) (q := a - t) (P := 2000000000) (Q := t' - t) (by omega) (by omega) (by omega)
  refine ⟨by omega, ?_, ?_⟩
  · exact Int.le_ediv_of_mul_le (by omega) (by rw [Int.neg_mul]; exact b2.1)
  · exact Int.ediv_le_of_le_mul (by omega) b2.2

section
variable {xs : List Sample} {w : Window} {step how : Int} (g : Good xs) (hf : 0 ≤ w.From) (hft : w.From ≤ w.To) (ht : w.To ≤ 345686400000) (hs1 : 1 ≤ step) (hs2 : step ≤ 345686400000)
include g hf hft ht hs1 hs2

theorem Fill_point {out : List Sample} {t k : Int} (hk : IsLast xs t k) (h0 : 0 ≤ t) (h1 : t < w.To) (hout : (out.length : Int) ≤ 5000) : series_Fill_k7 xs step how out t k = some (.inl (out ++ pt xs how t k, k, t + step)) := by
  have hl := g.len
  unfold series_Fill_k7 series_Fill_j4 series_Fill_j6 series_Fill_j5 series_Fill_j2 pt
  have wt : w64 (t + step) = t + step := by rw [w64_in] <;> omega
  rw [wt]
  split
  · simp
  · rename_i hk0
    obtain ⟨x, hx, hxm, _⟩ := idx_lt xs (i := k) (by omega) hk.lt
    have hxa := g.at_ x hxm; have hxv := g.val x hxm
    have hxt := hk.le k x (by omega) hx
    have wk : w64 (k + 1) = k + 1 := by have := hk.lt; rw [w64_in] <;> omega
    rw [hx, wk]
    simp only [Option.bind_some]
    by_cases hc : how = 2 ∧ x.At < t
    · rw [if_pos (by simpa using hc), if_pos hc]
      by_cases hlast : k + 1 = xs.length
      · rw [if_pos hlast, if_pos trivial, idx_none (i := k + 1) (by omega)]; simp
      · obtain ⟨y, hy, hym, _⟩ := idx_lt xs (i := k + 1) (by omega) (by have := hk.lt; omega)
        have hya := g.at_ y hym; have hyv := g.val y hym
        have hyt := hk.gt (k + 1) y (by omega) hy
        rw [if_neg hlast, hy]
        simp only [Option.bind_some]
        have w1 : w64 (y.At - x.At) = y.At - x.At := by rw [w64_in] <;> omega
        rw [w1]
        by_cases hfar : 2592000000 < y.At - x.At
        · rw [if_pos (by simpa using hfar), if_pos hfar]; simp
        · have lb := line_bound hxv hyv hc.2 hyt hfar
          have w2 : w64 (y.Value - x.Value) = y.Value - x.Value := by rw [w64_in] <;> omega
          have w3 : w64 (t - x.At) = t - x.At := by rw [w64_in] <;> omega
          have w4 : w64 ((y.Value - x.Value) * (t - x.At)) = (y.Value - x.Value) * (t - x.At) := by rw [w64_in] <;> omega
          rw [if_neg (by simpa using hfar), if_neg hfar, w2, w3, w4, Down_eq (by omega) (by omega)]
          simp only [Option.bind_some]
          have w5 : w64 (x.Value + (y.Value - x.Value) * (t - x.At) / (y.At - x.At)) = lineV x y t := by unfold lineV; rw [w64_in] <;> omega
          rw [w5, app_le (by simp; omega)]
          rfl
    · rw [if_neg (by simpa using hc), if_neg hc, app_le (by simp; omega)]
      rfl

theorem Fill_seek {out : List Sample} {t : Int} (h0 : 0 ≤ t) (h1 : t < w.To) (hout : (out.length : Int) ≤ 5000) : ∀ (n : Nat) (k : Int), -1 ≤ k → k + 1 + n = xs.length → (∀ j y, j ≤ k → idx xs j = some y → y.At ≤ t) →
    ∃ k', IsLast xs t k' ∧ series_Fill_l2 xs step how out t k = some (.inl (out ++ pt xs how t k', k', t + step))
  | n, k, hk, hn, hle => by
    have hl := g.len
    have wk : w64 (k + 1) = k + 1 := by rw [w64_in] <;> omega
    unfold series_Fill_l2
    rw [iter_eq, series_Fill_b2, wk]
    by_cases hlast : k + 1 < xs.length
    · obtain ⟨y, hy, hym, _⟩ := idx_lt xs (i := k + 1) (by omega) hlast
      rw [if_pos hlast, hy]
      simp only [Option.bind_some]
      unfold series_Fill_j3
      rw [wk]
      by_cases hyt : y.At ≤ t
      · rw [if_pos (by simpa using hyt)]
        simp only [Option.bind_some, after_inl]
        match n, hn with
        | 0, hn => omega
        | n + 1, hn =>
          exact Fill_seek h0 h1 hout n (k + 1) (by omega) (by omega) (fun j z hj hz => by
            by_cases hjk : j ≤ k
            · exact hle j z hjk hz
            · obtain rfl : j = k + 1 := by omega
              rw [hy] at hz; obtain rfl := Option.some.inj hz; exact hyt)
      · have hlst : IsLast xs t k := ⟨hk, by omega, hle, fun j z hj hz => by
          by_cases hjk : j = k + 1
          · subst hjk; rw [hy] at hz; obtain rfl := Option.some.inj hz; omega
          · have := g.lt hy hz (by omega); omega⟩
        refine ⟨k, hlst, ?_⟩
        rw [if_neg (by simpa using hyt), map_inr_after]
        exact Fill_point g hf hft ht hs1 hs2 hlst h0 h1 hout
    · have hlst : IsLast xs t k := ⟨hk, by omega, hle, fun j z hj hz => by have := (idx_some hz).2.1; omega⟩
      refine ⟨k, hlst, ?_⟩
      rw [if_neg hlast]
      unfold series_Fill_j3
      rw [if_neg (by simp), map_inr_after]
      exact Fill_point g hf hft ht hs1 hs2 hlst h0 h1 hout

/-- What the reference's search has found so far. -/
structure Seen (xs : List Sample) (t i a b : Int) : Prop where
  a_ge : -1 ≤ a
  a_lt : a < i
  a_le : ∀ y, idx xs a = some y → y.At ≤ t
  a_gt : ∀ j y, a < j → j < i → idx xs j = some y → t < y.At
  b_cs : (b = -1 ∧ ∀ j y, j < i → idx xs j = some y → y.At < t) ∨ (0 ≤ b ∧ b < i ∧ (∀ y, idx xs b = some y → t ≤ y.At) ∧ ∀ j y, j < b → idx xs j = some y → y.At < t)

theorem Ref_end {out : List Sample} {t a b : Int} (hsn : Seen xs t xs.length a b) (h0 : 0 ≤ t) (h1 : t < w.To) (hout : (out.length : Int) ≤ 5000) :
    IsLast xs t a ∧ Q_FillOf_j5 xs step how out t a b ((decide (a < 0)) || ((decide (how = 2)) && (decide (b < 0)))) = some (.inl (out ++ pt xs how t a, t + step)) := by
  have hl := g.len
  have hlst : IsLast xs t a := ⟨hsn.a_ge, hsn.a_lt, fun j y hj hy => by
      by_cases hja : j = a
      · subst hja; exact hsn.a_le y hy
      · obtain ⟨z, hz, _, _⟩ := idx_lt xs (i := a) (by have := (idx_some hy).1; omega) hsn.a_lt
        have := g.lt hy hz (by omega); have := hsn.a_le z hz; omega, fun j y hj hy => hsn.a_gt j y hj (idx_some hy).2.1 hy⟩
  refine ⟨hlst, ?_⟩
  have wt : w64 (t + step) = t + step := by rw [w64_in] <;> omega
  unfold Q_FillOf_j5 Q_FillOf_j6 Q_FillOf_j7 Q_FillOf_j1 pt
  rw [wt]
  by_cases ha : a < 0
  · rw [if_pos (by simp [ha]), if_pos ha]; simp
  · obtain ⟨x, hx, hxm, _⟩ := idx_lt xs (i := a) (by omega) hsn.a_lt
    have hxa := g.at_ x hxm; have hxv := g.val x hxm
    have hxt := hsn.a_le x hx
    rw [if_neg ha, hx]
    simp only [Option.bind_some]
    by_cases hc : how = 2 ∧ x.At < t
    · rw [if_pos hc]
      by_cases hb : b < 0
      · rw [if_pos (by simp [hc.1, hb])]
        have hall : ∀ j y, j < (xs.length : Int) → idx xs j = some y → y.At < t := by
          rcases hsn.b_cs with ⟨_, h⟩ | ⟨h, _⟩
          · exact h
          · omega
        have hnone : idx xs (a + 1) = none := by
          cases hy : idx xs (a + 1) with
          | none => rfl
          | some y => have := hall (a + 1) y (idx_some hy).2.1 hy; have := hlst.gt (a + 1) y (by omega) hy; omega
        rw [hnone]; simp
      · rw [if_neg (by simp [ha, hb])]
        obtain ⟨hb0, hb1, hb2, hb3⟩ : 0 ≤ b ∧ b < (xs.length : Int) ∧ (∀ y, idx xs b = some y → t ≤ y.At) ∧ ∀ j y, j < b → idx xs j = some y → y.At < t := by
          rcases hsn.b_cs with ⟨h, _⟩ | h
          · omega
          · exact h
        obtain ⟨y, hy, hym, _⟩ := idx_lt xs (i := b) hb0 hb1
        have hyt := hb2 y hy
        obtain rfl : b = a + 1 := by
          rcases Int.lt_trichotomy b (a + 1) with hlt | he | hlt
          · have := hlst.le b y (by omega) hy
            by_cases hba : b = a
            · subst hba; rw [hx] at hy; obtain rfl := Option.some.inj hy; omega
            · have := g.lt hy hx (by omega); omega
          · exact he
          · obtain ⟨z, hz, _, _⟩ := idx_lt xs (i := a + 1) (by omega) (by omega)
            have := hb3 (a + 1) z hlt hz; have := hlst.gt (a + 1) z (by omega) hz; omega
        have hya := g.at_ y hym; have hyv := g.val y hym
        have hyt := hlst.gt (a + 1) y (by omega) hy
        rw [if_pos (by simp [hc.1]; omega), hy]
        simp only [Option.bind_some]
        have w1 : w64 (y.At - x.At) = y.At - x.At := by rw [w64_in] <;> omega
        rw [w1]
        by_cases hfar : 2592000000 < y.At - x.At
        · rw [if_pos hfar, if_pos hfar]; simp
        · have lb := line_bound hxv hyv hc.2 hyt hfar
          have w2 : w64 (y.Value - x.Value) = y.Value - x.Value := by rw [w64_in] <;> omega
          have w3 : w64 (t - x.At) = t - x.At := by rw [w64_in] <;> omega
          have w4 : w64 ((y.Value - x.Value) * (t - x.At)) = (y.Value - x.Value) * (t - x.At) := by rw [w64_in] <;> omega
          rw [if_neg hfar, if_neg hfar, w2, w3, w4, floor_eq (by omega) (by omega)]
          simp only [Option.bind_some]
          have w5 : w64 (x.Value + (y.Value - x.Value) * (t - x.At) / (y.At - x.At)) = lineV x y t := by unfold lineV; rw [w64_in] <;> omega
          rw [w5, app_le (by simp; omega)]
          rfl
    · rw [if_neg hc]
      by_cases hw : how = 2
      · have hxe : x.At = t := by
          have : ¬ x.At < t := fun h => hc ⟨hw, h⟩
          omega
        have hba : b = a := by
          rcases hsn.b_cs with ⟨_, h⟩ | ⟨h1', h2', h3', h4'⟩
          · have := h a x hsn.a_lt hx; omega
          · rcases Int.lt_trichotomy b a with hlt | he | hlt
            · obtain ⟨z, hz, _, _⟩ := idx_lt xs (i := b) h1' h2'
              have := h3' z hz; have := g.lt hz hx hlt; omega
            · exact he
            · have := h4' a x hlt hx; omega
        rw [if_neg (by simp [ha, hba]), if_neg (by simp [hba]), app_le (by simp; omega)]
        rfl
      · rw [if_neg (by simp [ha, hw]), if_neg (by simp [hw]), app_le (by simp; omega)]
        rfl

theorem Ref_scan {out : List Sample} {t : Int} (h0 : 0 ≤ t) (h1 : t < w.To) (hout : (out.length : Int) ≤ 5000) : ∀ (n : Nat) (i a b : Int), 0 ≤ i → i + n = xs.length → Seen xs t i a b →
    ∃ k', IsLast xs t k' ∧ Q_FillOf_l2 xs step how out t a b i = some (.inl (out ++ pt xs how t k', t + step))
  | 0, i, a, b, hi, hn, hsn => by
    obtain rfl : i = xs.length := by omega
    unfold Q_FillOf_l2
    rw [iter_eq, Q_FillOf_b2, if_neg (by simp only; omega), map_inr_after]
    exact ⟨a, Ref_end g hf hft ht hs1 hs2 hsn h0 h1 hout⟩
  | n + 1, i, a, b, hi, hn, hsn => by
    have hl := g.len
    obtain ⟨y, hy, hym, _⟩ := idx_lt xs (i := i) hi (by omega)
    have wi : w64 (i + 1) = i + 1 := by rw [w64_in] <;> omega
    unfold Q_FillOf_l2
    rw [iter_eq, Q_FillOf_b2, if_pos (by simp only; omega)]
    simp only [hy, Option.bind_some]
    unfold Q_FillOf_j2 Q_FillOf_j3 Q_FillOf_j4
    rw [wi]
    have key : ∀ a' b', Seen xs t (i + 1) a' b' → ∃ k', IsLast xs t k' ∧ iter (fun x : Int × Int × Int => Q_FillOf_b2 xs step how out t x.1 x.2.1 x.2.2) (a', b', i + 1) = some (.inl (out ++ pt xs how t k', t + step)) :=
      fun a' b' h => Ref_scan h0 h1 hout n (i + 1) a' b' (by omega) (by omega) h
    have hbn : ¬ (t ≤ y.At ∧ b < 0) → (b = -1 ∧ ∀ j z, j < i + 1 → idx xs j = some z → z.At < t) ∨ (0 ≤ b ∧ b < i + 1 ∧ (∀ z, idx xs b = some z → t ≤ z.At) ∧ ∀ j z, j < b → idx xs j = some z → z.At < t) := by
      intro hnb
      rcases hsn.b_cs with ⟨e, h⟩ | ⟨e1, e2, e3, e4⟩
      · refine .inl ⟨e, fun j z hj hz => ?_⟩
        by_cases hji : j = i
        · subst hji; rw [hy] at hz; obtain rfl := Option.some.inj hz
          have : ¬ t ≤ y.At := fun h => hnb ⟨h, by omega⟩
          omega
        · exact h j z (by omega) hz
      · exact .inr ⟨e1, by omega, e3, e4⟩
    have hby : (t ≤ y.At ∧ b < 0) → (i = -1 ∧ ∀ j z, j < i + 1 → idx xs j = some z → z.At < t) ∨ (0 ≤ i ∧ i < i + 1 ∧ (∀ z, idx xs i = some z → t ≤ z.At) ∧ ∀ j z, j < i → idx xs j = some z → z.At < t) := by
      rintro ⟨hty, hb⟩
      refine .inr ⟨hi, by omega, fun z hz => by rw [hy] at hz; obtain rfl := Option.some.inj hz; exact hty, fun j z hj hz => ?_⟩
      rcases hsn.b_cs with ⟨e, h⟩ | ⟨e1, _⟩
      · exact h j z hj hz
      · omega
    have h_in : y.At ≤ t → ∀ b', ((b' = -1 ∧ ∀ j z, j < i + 1 → idx xs j = some z → z.At < t) ∨ (0 ≤ b' ∧ b' < i + 1 ∧ (∀ z, idx xs b' = some z → t ≤ z.At) ∧ ∀ j z, j < b' → idx xs j = some z → z.At < t)) → Seen xs t (i + 1) i b' :=
      fun hyt b' hb' => ⟨by omega, by omega, fun z hz => by rw [hy] at hz; obtain rfl := Option.some.inj hz; exact hyt, fun j z hj hji hz => by omega, hb'⟩
    have h_out : ¬ y.At ≤ t → ∀ b', ((b' = -1 ∧ ∀ j z, j < i + 1 → idx xs j = some z → z.At < t) ∨ (0 ≤ b' ∧ b' < i + 1 ∧ (∀ z, idx xs b' = some z → t ≤ z.At) ∧ ∀ j z, j < b' → idx xs j = some z → z.At < t)) → Seen xs t (i + 1) a b' :=
      fun hyt b' hb' => ⟨hsn.a_ge, by have := hsn.a_lt; omega, hsn.a_le, fun j z hj hji hz => by
        by_cases hje : j = i
        · subst hje; rw [hy] at hz; obtain rfl := Option.some.inj hz; omega
        · exact hsn.a_gt j z hj (by omega) hz, hb'⟩
    by_cases hyt : y.At ≤ t <;> by_cases hb : t ≤ y.At ∧ b < 0
    · rw [if_pos hyt, if_pos (by simpa using hb)]; exact key i i (h_in hyt i (hby hb))
    · rw [if_pos hyt, if_neg (by simpa using hb)]; exact key i b (h_in hyt b (hbn hb))
    · rw [if_neg hyt, if_pos (by simpa using hb)]; exact key a i (h_out hyt i (hby hb))
    · rw [if_neg hyt, if_neg (by simpa using hb)]; exact key a b (h_out hyt b (hbn hb))

theorem Fill_end (out : List Sample) (k t : Int) (htt : ¬ t < w.To) : series_Fill_l1 xs w step how out k t = some (out, 0) ∧ Q_FillOf_l1 xs w step how out t = some (out, 0) := by
  constructor
  · unfold series_Fill_l1
    rw [iter_eq, series_Fill_b1, if_neg (by simp only; omega), map_inr_after]
  · unfold Q_FillOf_l1
    rw [iter_eq, Q_FillOf_b1, if_neg (by simp only; omega), map_inr_after]
theorem Fill_same : ∀ (n : Nat) (out : List Sample) (k t : Int), 0 ≤ t → t ≤ 691372800000 → w.To ≤ t + n * step → (out.length : Int) + n ≤ 5000 → -1 ≤ k → k < xs.length → (∀ j y, j ≤ k → idx xs j = some y → y.At ≤ t) →
    ∃ res : List Sample, (res.length : Int) ≤ 5000 ∧ series_Fill_l1 xs w step how out k t = some (res, 0) ∧ Q_FillOf_l1 xs w step how out t = some (res, 0) := by
  intro n
  induction n with
  | zero =>
    intro out k t h0 htb hn hlen hk hkl hle
    have hz : ((0 : Nat) : Int) * step = 0 := Int.zero_mul _
    exact ⟨out, by omega, Fill_end g hf hft ht hs1 hs2 out k t (by omega)⟩
  | succ n ih =>
    intro out k t h0 htb hn hlen hk hkl hle
    by_cases htt : t < w.To
    · have hout : (out.length : Int) ≤ 5000 := by omega
      obtain ⟨k1, l1, e1⟩ := Fill_seek (how := how) (out := out) g hf hft ht hs1 hs2 h0 htt hout (xs.length - (k + 1)).toNat k hk (by omega) hle
      obtain ⟨k2, l2, e2⟩ := Ref_scan (how := how) (out := out) g hf hft ht hs1 hs2 h0 htt hout xs.length 0 (-1) (-1) (by omega) (by omega) ⟨by omega, by omega, fun y hy => by have := (idx_some hy).1; omega, fun j y hj hji hy => by have := (idx_some hy).1; omega, .inl ⟨rfl, fun j y hj hy => by have := (idx_some hy).1; omega⟩⟩
      obtain rfl := l1.uniq l2
      have hpl := pt_len xs how t k1
      have hmul : w.To ≤ (t + step) + n * step := by
        have : ((n + 1 : Nat) : Int) * step = n * step + step := by rw [Int.natCast_add, Int.add_mul]; simp
        omega
      obtain ⟨res, hres, r1, r2⟩ := ih (out ++ pt xs how t k1) k1 (t + step) (by omega) (by omega) hmul (by rw [List.length_append]; omega) l1.ge l1.lt (fun j y hj hy => by have := l1.le j y hj hy; omega)
      refine ⟨res, hres, ?_, ?_⟩
      · unfold series_Fill_l1 at r1 ⊢
        rw [iter_eq, series_Fill_b1, if_pos (by simp only; omega)]
        simp only [e1, Option.bind_some, after_inl]
        exact r1
      · unfold Q_FillOf_l1 at r2 ⊢
        rw [iter_eq, Q_FillOf_b1, if_pos (by simp only; omega)]
        simp only [e2, Option.bind_some, after_inl]
        exact r2
    · exact ⟨out, by omega, Fill_end g hf hft ht hs1 hs2 out k t htt⟩
end
end Go.Beacon
