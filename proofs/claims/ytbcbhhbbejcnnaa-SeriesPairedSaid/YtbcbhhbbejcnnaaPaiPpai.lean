/- The law SeriesPaired as a plain statement. No program in sight. -/
import Derived.Test.YtbcbhhbbejcnnaaPaiPnum
import Derived.Test.YtbcbhhbbejcnnaaPaiPmeas
set_option linter.unusedVariables false
set_option linter.unusedSimpArgs false
namespace Go.Beacon
open Go Go.Eng

/-! the nearest -/
def atOf (b : List Sample) (j : Int) : Int := match idx b j with
  | some y => y.At
  | none => 0
theorem atOf_eq {b : List Sample} {j : Int} {y : Sample} (h : idx b j = some y) : atOf b j = y.At := by unfold atOf; rw [h]
def dst (b : List Sample) (x j : Int) : Int := max (x - atOf b j) (atOf b j - x)
def Best (n : Int) (d : Int → Int) (most r : Int) : Prop :=
  (r = -1 ∧ ∀ j, 0 ≤ j → j < n → most < d j) ∨ (0 ≤ r ∧ r < n ∧ d r ≤ most ∧ (∀ j, 0 ≤ j → j < r → d r < d j) ∧ (∀ j, r ≤ j → j < n → d r ≤ d j))
theorem Best.same {n most r r' : Int} {d : Int → Int} (h : Best n d most r) (h' : Best n d most r') : r = r' := by
  rcases h with ⟨a1, a2⟩ | ⟨a1, a2, a3, a4, a5⟩
  · rcases h' with ⟨b1, b2⟩ | ⟨b1, b2, b3, b4, b5⟩
    · omega
    · have := a2 r' b1 b2; omega
  · rcases h' with ⟨b1, b2⟩ | ⟨b1, b2, b3, b4, b5⟩
    · have := b2 r a1 a2; omega
    · rcases Int.lt_trichotomy r r' with h | h | h
      · have := b4 r a1 h; have := a5 r' (by omega) b2; omega
      · exact h
      · have := a4 r' b1 h; have := b5 r (by omega) a2; omega
def bestR (d : Int → Int) (most : Int) : Nat → Int
  | 0 => -1
  | n + 1 => if d n ≤ most ∧ (bestR d most n < 0 ∨ d n < d (bestR d most n)) then n else bestR d most n
theorem bestR_best (d : Int → Int) (most : Int) : ∀ n : Nat, Best n d most (bestR d most n)
  | 0 => .inl ⟨rfl, fun j h0 h1 => by omega⟩
  | n + 1 => by
    have ih := bestR_best d most n
    simp only [bestR]
    generalize hr : bestR d most n = r at *
    rcases ih with ⟨a1, a2⟩ | ⟨a1, a2, a3, a4, a5⟩
    · split
      · rename_i hc
        refine .inr ⟨by omega, by omega, hc.1, fun j h0 h1 => ?_, fun j h0 h1 => ?_⟩
        · have := a2 j h0 h1; omega
        · have : j = n := by omega
          subst this; omega
      · rename_i hc
        refine .inl ⟨a1, fun j h0 h1 => ?_⟩
        by_cases hj : j < n
        · exact a2 j h0 hj
        · have : j = n := by omega
          subst this
          have : r < 0 := by omega
          simp only [this, true_or, and_true] at hc; omega
    · split
      · rename_i hc
        have hlt : d n < d r := by have := hc.2; omega
        refine .inr ⟨by omega, by omega, hc.1, fun j h0 h1 => ?_, fun j h0 h1 => ?_⟩
        · by_cases hj : j < r
          · have := a4 j h0 hj; omega
          · have := a5 j (by omega) h1; omega
        · have : j = n := by omega
          subst this; omega
      · rename_i hc
        refine .inr ⟨a1, by omega, a3, a4, fun j h0 h1 => ?_⟩
        by_cases hj : j < n
        · exact a5 j h0 hj
        · have : j = n := by omega
          subst this
          have h2 : ¬ d n < d r := fun h => hc ⟨by omega, .inr h⟩
          omega
def bestI (b : List Sample) (x most : Int) : Int := bestR (dst b x) most b.length
theorem bestI_best (b : List Sample) (x most : Int) : Best b.length (dst b x) most (bestI b x most) := bestR_best _ _ _
theorem dst_eq {b : List Sample} {x j : Int} {y : Sample} (h : idx b j = some y) (hx : -4398046511104 ≤ x ∧ x ≤ 4398046511104) (hy : SampB y) : max (w64 (x - y.At)) (w64 (y.At - x)) = dst b x j := by
  have := hy.1
  unfold dst
  rw [atOf_eq h, w64_in, w64_in] <;> omega

/-- The reference's inner loop. -/
theorem near_ref (b : List Sample) (hB : ∀ x ∈ b, SampB x) (hl : (b.length : Int) ≤ 5000) (most : Int) (acc : List Pairing) (i : Int) (x : Sample) (hx : SampB x) : Q_PairsOf_l2 b most acc i x (-1) 0 = Q_PairsOf_k4 b acc i x (bestI b x.At most) := by
  unfold Q_PairsOf_l2
  refine iter_to _ (fun s : Int × Int => ((b.length : Int) - s.2).toNat) (fun s : Int × Int => 0 ≤ s.2 ∧ s.2 ≤ b.length ∧ s.1 = bestR (dst b x.At) most s.2.toNat) _ ?_ _ ⟨by simp, by simp, rfl⟩
  rintro ⟨r, j⟩ ⟨h0, h1, hr⟩
  simp only at h0 h1 hr ⊢
  unfold Q_PairsOf_b2
  by_cases hj : j < b.length
  · rw [if_pos hj]
    obtain ⟨y, hy, hym, _⟩ := idx_lt b h0 hj
    have w1 : w64 (j + 1) = j + 1 := by rw [w64_in] <;> omega
    have hn : (j + 1).toNat = j.toNat + 1 := by omega
    have hjj : ((j.toNat : Nat) : Int) = j := by omega
    simp only [hy, Option.bind_some, dst_eq hy hx.1 (hB y hym)]
    unfold Q_PairsOf_j1 Q_PairsOf_j2
    rw [w1]
    left
    have hbest := bestR_best (dst b x.At) most j.toNat
    rw [← hr, hjj] at hbest
    have step : ∀ c : Prop, [Decidable c] → (c ↔ dst b x.At j ≤ most ∧ (r < 0 ∨ dst b x.At j < dst b x.At r)) → (if c then j else r) = bestR (dst b x.At) most (j + 1).toNat := by
      intro c _ hc
      rw [hn]
      simp only [bestR, hjj, ← hr]
      split
      · rename_i h; rw [if_pos (hc.1 h)]
      · rename_i h; rw [if_neg (fun h' => h (hc.2 h'))]
    by_cases c1 : dst b x.At j ≤ most
    · rw [if_pos c1]
      by_cases c2 : r < 0
      · rw [if_pos c2, if_pos rfl]
        refine ⟨_, rfl, ⟨by simp only; omega, by simp only; omega, ?_⟩, by simp only; omega⟩
        have := step True (by simp [c1, c2])
        simpa using this
      · rw [if_neg c2]
        have hrn : 0 ≤ r ∧ r < j := by
          rcases hbest with ⟨a1, _⟩ | ⟨a1, a2, _⟩
          · omega
          · exact ⟨a1, a2⟩
        obtain ⟨z, hz, hzm, _⟩ := idx_lt b hrn.1 (by omega)
        simp only [hz, Option.bind_some, dst_eq hz hx.1 (hB z hzm), decide_eq_true_eq]
        have := step (dst b x.At j < dst b x.At r) (by simp [c1, c2])
        by_cases c3 : dst b x.At j < dst b x.At r
        · rw [if_pos c3] at this ⊢
          exact ⟨_, rfl, ⟨by simp only; omega, by simp only; omega, this⟩, by simp only; omega⟩
        · rw [if_neg c3] at this ⊢
          exact ⟨_, rfl, ⟨by simp only; omega, by simp only; omega, this⟩, by simp only; omega⟩
    · rw [if_neg c1, if_neg (by simp)]
      have := step False (by simp; omega)
      refine ⟨_, rfl, ⟨by simp only; omega, by simp only; omega, ?_⟩, by simp only; omega⟩
      simpa using this
  · rw [if_neg hj]
    right
    have : j = b.length := by omega
    subst this
    rw [hr]; rfl

/-! the search -/
theorem half {i j : Int} (h0 : 0 ≤ i) (h1 : i < j) (h2 : j ≤ 5000) : w64 (shrI .u64 (IntKind.u64.wrap (w64 (i + j))) 1) = (i + j) / 2 := by
  have e1 : w64 (i + j) = i + j := by rw [w64_in] <;> omega
  have e2 : IntKind.u64.wrap (i + j) = i + j := u64_in (by omega) (by omega)
  rw [e1, e2]
  have e3 : shrI .u64 (i + j) 1 = (i + j) / 2 := by
    show (i + j).fdiv 2 = _
    rw [Int.fdiv_eq_ediv_of_nonneg _ (by omega)]
  rw [e3, w64_in] <;> omega
theorem atOf_lt {b : List Sample} (hu : b.Pairwise (fun a c => a.At < c.At)) {i j : Int} (h0 : 0 ≤ i) (h1 : i < j) (h2 : j < b.length) : atOf b i < atOf b j := by
  obtain ⟨y, hy, _, _⟩ := idx_lt b h0 (by omega)
  obtain ⟨z, hz, _, _⟩ := idx_lt b (i := j) (by omega) h2
  rw [atOf_eq hy, atOf_eq hz]
  obtain ⟨_, _, g1⟩ := idx_some hy
  obtain ⟨_, _, g2⟩ := idx_some hz
  rw [List.getElem?_eq_some_iff] at g1 g2
  obtain ⟨k1, e1⟩ := g1
  obtain ⟨k2, e2⟩ := g2
  rw [← e1, ← e2]
  exact List.pairwise_iff_getElem.1 hu _ _ k1 k2 (by omega)
def Cut (b : List Sample) (x i : Int) : Prop := 0 ≤ i ∧ i ≤ b.length ∧ (∀ j, 0 ≤ j → j < i → atOf b j < x) ∧ (∀ j, i ≤ j → j < b.length → x ≤ atOf b j)
theorem search_eq (b : List Sample) (hl : (b.length : Int) ≤ 5000) (hu : b.Pairwise (fun a c => a.At < c.At)) (x : Int) : ∃ r, slices_BinarySearchFunc_Sample_Sample_int b x (fun y0 y1 => some (series_Pair_1x y0 y1)) = some r ∧ Cut b x r.1 := by
  unfold slices_BinarySearchFunc_Sample_Sample_int slices_BinarySearchFunc_Sample_Sample_int_l1
  refine iter_inv _ (fun s : Int × Int => (s.2 - s.1).toNat) (fun s : Int × Int => 0 ≤ s.1 ∧ s.1 ≤ s.2 ∧ s.2 ≤ b.length ∧ (∀ j, 0 ≤ j → j < s.1 → atOf b j < x) ∧ (∀ j, s.2 ≤ j → j < b.length → x ≤ atOf b j)) _ ?_ _ ⟨by simp, by simp, by simp, fun j h0 h1 => by simp only at h1; omega, fun j h0 h1 => by simp only at h0; omega⟩
  rintro ⟨i, j⟩ ⟨h0, h1, h2, h3, h4⟩
  simp only at h0 h1 h2 h3 h4 ⊢
  unfold slices_BinarySearchFunc_Sample_Sample_int_b1
  by_cases hij : i < j
  · rw [if_pos hij, half h0 hij (by omega)]
    obtain ⟨y, hy, _, _⟩ := idx_lt b (i := (i + j) / 2) (by omega) (by omega)
    simp only [hy, Option.bind_some, series_Pair_1x, CompareI_eq]
    have hat := atOf_eq hy
    unfold slices_BinarySearchFunc_Sample_Sample_int_j1
    left
    by_cases hc : y.At < x
    · rw [if_pos (by unfold cmpI; rw [if_pos hc]; omega), w64_in (by omega) (by omega)]
      refine ⟨_, rfl, ⟨by simp only; omega, by simp only; omega, by simp only; omega, fun k g0 g1 => ?_, h4⟩, by simp only; omega⟩
      simp only at g1
      by_cases hk : k = (i + j) / 2
      · rw [hk, hat]; exact hc
      · have := atOf_lt hu g0 (show k < (i + j) / 2 by omega) (by omega); omega
    · rw [if_neg (by unfold cmpI; rw [if_neg hc]; split <;> omega)]
      refine ⟨_, rfl, ⟨by simp only; omega, by simp only; omega, by simp only; omega, h3, fun k g0 g1 => ?_⟩, by simp only; omega⟩
      simp only at g0
      by_cases hk : k = (i + j) / 2
      · rw [hk, hat]; omega
      · have := atOf_lt hu (show 0 ≤ (i + j) / 2 by omega) (show (i + j) / 2 < k by omega) g1; omega
  · rw [if_neg hij]
    right
    have : j = i := by omega
    subst this
    unfold slices_BinarySearchFunc_Sample_Sample_int_k3 slices_BinarySearchFunc_Sample_Sample_int_j2
    split
    · rename_i hlt
      obtain ⟨y, hy, _, _⟩ := idx_lt b h0 hlt
      simp only [hy, Option.bind_some]
      exact ⟨_, rfl, h0, h2, h3, h4⟩
    · exact ⟨_, rfl, h0, h2, h3, h4⟩

/-- What two neighbours tell. -/
def two (n : Int) (d : Int → Int) (most i : Int) : Int :=
  if 0 ≤ i - 1 ∧ d (i - 1) ≤ most then (if i < n ∧ d i < d (i - 1) then i else i - 1) else if i < n ∧ d i ≤ most then i else -1
theorem two_best {b : List Sample} (hu : b.Pairwise (fun a c => a.At < c.At)) {x i : Int} (most : Int) (hc : Cut b x i) : two b.length (dst b x) most i = bestI b x most := by
  refine Best.same ?_ (bestI_best b x most)
  obtain ⟨h0, h1, h2, h3⟩ := hc
  have lo : ∀ j, 0 ≤ j → j < i - 1 → dst b x (i - 1) < dst b x j := fun j g0 g1 => by
    have a1 := h2 j g0 (by omega); have a2 := h2 (i - 1) (by omega) (by omega); have a3 := atOf_lt hu g0 g1 (by omega)
    unfold dst; omega
  have hi : ∀ j, i < j → j < b.length → dst b x i < dst b x j := fun j g0 g1 => by
    have a1 := h3 j (by omega) g1; have a2 := h3 i (by omega) (by omega); have a3 := atOf_lt hu h0 g0 g1
    unfold dst; omega
  unfold two
  generalize dst b x = d at *
  split
  · rename_i c1
    split
    · rename_i c2
      refine .inr ⟨h0, c2.1, by omega, fun j g0 g1 => ?_, fun j g0 g1 => ?_⟩
      · by_cases hj : j = i - 1
        · rw [hj]; exact c2.2
        · have := lo j g0 (by omega); omega
      · by_cases hj : j = i
        · rw [hj]; omega
        · have := hi j (by omega) g1; omega
    · rename_i c2
      refine .inr ⟨by omega, by omega, c1.2, lo, fun j g0 g1 => ?_⟩
      by_cases hj : j = i - 1
      · rw [hj]; omega
      · have a1 : d (i - 1) ≤ d i := by
          have : i < b.length := by omega
          simp only [this, true_and] at c2; omega
        by_cases hj2 : j = i
        · rw [hj2]; exact a1
        · have := hi j (by omega) g1; omega
  · rename_i c1
    have below : ∀ j, 0 ≤ j → j < i → most < d j := fun j g0 g1 => by
      have a1 : most < d (i - 1) := by
        have : 0 ≤ i - 1 := by omega
        simp only [this, true_and] at c1; omega
      by_cases hj : j = i - 1
      · rw [hj]; exact a1
      · have := lo j g0 (by omega); omega
    split
    · rename_i c2
      refine .inr ⟨h0, c2.1, c2.2, fun j g0 g1 => ?_, fun j g0 g1 => ?_⟩
      · have := below j g0 g1; omega
      · by_cases hj : j = i
        · rw [hj]; omega
        · have := hi j (by omega) g1; omega
    · rename_i c2
      refine .inl ⟨rfl, fun j g0 g1 => ?_⟩
      by_cases hj : j < i
      · exact below j g0 hj
      · have a1 : most < d i := by
          have : i < b.length := by omega
          simp only [this, true_and] at c2; omega
        by_cases hj2 : j = i
        · rw [hj2]; exact a1
        · have := hi j (by omega) g1; omega
/-- The program's inner loop. -/
theorem near_prog (b : List Sample) (hB : ∀ x ∈ b, SampB x) (hl : (b.length : Int) ≤ 5000) (most : Int) (hm : -10 ≤ most ∧ most ≤ 1000000000000) (acc : List Pairing) (n : Int) (x : Sample) (hx : SampB x) (v : Int × Bool) (hv : 0 ≤ v.1 ∧ v.1 ≤ b.length) :
    series_Pair_l2 b acc n x v (-1) (w64 (most + 1)) 0 = series_Pair_k4 b acc n x (two b.length (dst b x.At) most v.1) := by
  have w0 : w64 (most + 1) = most + 1 := by rw [w64_in] <;> omega
  have w1 : w64 (v.1 - 1) = v.1 - 1 := by rw [w64_in] <;> omega
  have u0 : w64 (0 + 1) = 1 := by decide
  have u1 : w64 (1 + 1) = 2 := by decide
  have k0 : idx [v.1 - 1, v.1] 0 = some (v.1 - 1) := rfl
  have k1 : idx [v.1 - 1, v.1] 1 = some v.1 := rfl
  have round : ∀ (best far k kk : Int), idx [v.1 - 1, v.1] kk = some k → (kk = 0 ∨ kk = 1) → series_Pair_b2 b acc n x v best far kk = some (.inl (if 0 ≤ k ∧ k < b.length ∧ dst b x.At k < far then (k, dst b x.At k, w64 (kk + 1)) else (best, far, w64 (kk + 1)))) := by
    intro best far k kk hk hkk
    unfold series_Pair_b2 series_Pair_j1 series_Pair_j2
    rw [w1, if_pos (by simp; omega), hk]
    simp only [Option.bind_some]
    by_cases c1 : 0 ≤ k
    · rw [if_pos c1]
      by_cases c2 : k < b.length
      · rw [if_pos c2]
        obtain ⟨y, hy, hym, _⟩ := idx_lt b c1 c2
        simp only [hy, Option.bind_some, dst_eq hy hx.1 (hB y hym), decide_eq_true_eq]
        by_cases c3 : dst b x.At k < far
        · rw [if_pos c3, if_pos ⟨c1, c2, c3⟩]
        · rw [if_neg c3, if_neg (by omega)]
      · rw [if_neg c2, if_neg (by simp), if_neg (by omega)]
    · rw [if_neg c1, if_neg (by simp), if_neg (by omega)]
  unfold series_Pair_l2
  rw [w0, iter_eq, round (-1) (most + 1) (v.1 - 1) 0 k0 (.inl rfl), u0]
  simp only [Option.bind_some, after_inl]
  have last : ∀ (best far : Int), iter (fun s : Int × Int × Int => series_Pair_b2 b acc n x v s.1 s.2.1 s.2.2) (best, far, 1) = series_Pair_k4 b acc n x (if v.1 < b.length ∧ dst b x.At v.1 < far then v.1 else best) := by
    intro best far
    rw [iter_eq, round best far v.1 1 k1 (.inr rfl), u1]
    simp only [Option.bind_some, after_inl]
    by_cases hc : v.1 < b.length ∧ dst b x.At v.1 < far
    · rw [if_pos ⟨hv.1, hc.1, hc.2⟩, if_pos hc, iter_eq, series_Pair_b2, if_neg (by simp), map_inr_after]
    · rw [if_neg (fun h => hc h.2), if_neg hc, iter_eq, series_Pair_b2, if_neg (by simp), map_inr_after]
  unfold two
  by_cases c1 : 0 ≤ v.1 - 1 ∧ dst b x.At (v.1 - 1) ≤ most
  · rw [if_pos ⟨c1.1, by omega, by omega⟩, if_pos c1, last]
  · rw [if_neg (fun h => c1 ⟨h.1, by omega⟩), if_neg c1, last]
    by_cases c2 : v.1 < b.length ∧ dst b x.At v.1 ≤ most
    · rw [if_pos ⟨c2.1, by omega⟩, if_pos c2]
    · rw [if_neg (fun h => c2 ⟨h.1, by omega⟩), if_neg c2]

/-! Pair -/
def pairs (b : List Sample) (most : Int) : List Sample → List Pairing
  | [] => []
  | x :: r => (match idx b (bestI b x.At most) with
    | some y => [⟨x, y⟩]
    | none => []) ++ pairs b most r
theorem pairs_len (b : List Sample) (most : Int) : ∀ a : List Sample, (pairs b most a).length ≤ a.length
  | [] => by simp [pairs]
  | x :: r => by
    have := pairs_len b most r
    simp only [pairs, List.length_append, List.length_cons]
    split <;> simp <;> omega
theorem best_idx (b : List Sample) (x most : Int) : (0 ≤ bestI b x most ∧ ∃ y, idx b (bestI b x most) = some y) ∨ (¬ 0 ≤ bestI b x most ∧ idx b (bestI b x most) = none) := by
  rcases bestI_best b x most with ⟨a1, _⟩ | ⟨a1, a2, _⟩
  · exact .inr ⟨by omega, idx_none (by omega)⟩
  · obtain ⟨y, hy, _⟩ := idx_lt b a1 a2
    exact .inl ⟨a1, y, hy⟩
theorem pairs_loop (a b : List Sample) (hA : ∀ x ∈ a, SampB x) (hB : ∀ x ∈ b, SampB x) (hla : (a.length : Int) ≤ 5000) (hl : (b.length : Int) ≤ 5000) (hu : b.Pairwise (fun a c => a.At < c.At)) (most : Int) (hm : -10 ≤ most ∧ most ≤ 1000000000000) :
    ∀ (n : Nat) (acc : List Pairing) (i : Int), 0 ≤ i → i + n = a.length → (acc.length : Int) ≤ i →
    series_Pair_l1 a b most acc i = some (acc ++ pairs b most (a.drop i.toNat), 0) ∧ Q_PairsOf_l1 a b most acc i = some (acc ++ pairs b most (a.drop i.toNat)) := by
  intro n
  induction n with
  | zero =>
    intro acc i h0 h1 h2
    unfold series_Pair_l1 Q_PairsOf_l1
    rw [iter_eq, series_Pair_b1, if_neg (by simp only; omega), map_inr_after, iter_eq, Q_PairsOf_b1, if_neg (by simp only; omega), map_inr_after, List.drop_of_length_le (by omega)]
    simp [pairs]
  | succ n ih =>
    intro acc i h0 h1 h2
    obtain ⟨x, hx, hxm, hd⟩ := idx_lt a h0 (by omega)
    have w1 : w64 (i + 1) = i + 1 := by rw [w64_in] <;> omega
    unfold series_Pair_l1 Q_PairsOf_l1 at ih ⊢
    rw [iter_eq, series_Pair_b1, if_pos (by simp only; omega), iter_eq, Q_PairsOf_b1, if_pos (by simp only; omega)]
    obtain ⟨v, hv, hcut⟩ := search_eq b hl hu x.At
    simp only [hx, Option.bind_some, hv]
    rw [near_prog b hB hl most hm acc i x (hA x hxm) v ⟨hcut.1, hcut.2.1⟩, two_best hu most hcut, near_ref b hB hl most acc i x (hA x hxm), hd]
    simp only [pairs]
    unfold series_Pair_k4 Q_PairsOf_k4 series_Pair_j3 Q_PairsOf_j3
    rw [w1]
    rcases best_idx b x.At most with ⟨c1, y, hy⟩ | ⟨c1, hy⟩
    · rw [if_pos c1, if_pos c1, hy]
      simp only [Option.bind_some]
      rw [app_le (by simp; omega)]
      simp only [Option.bind_some, after_inl]
      obtain ⟨r1, r2⟩ := ih (acc ++ [⟨x, y⟩]) (i + 1) (by omega) (by omega) (by simp; omega)
      rw [r1, r2]
      simp
    · rw [if_neg c1, if_neg c1, hy]
      simp only [Option.bind_some, after_inl]
      obtain ⟨r1, r2⟩ := ih acc (i + 1) (by omega) (by omega) (by omega)
      rw [r1, r2]
      simp
end Go.Beacon
