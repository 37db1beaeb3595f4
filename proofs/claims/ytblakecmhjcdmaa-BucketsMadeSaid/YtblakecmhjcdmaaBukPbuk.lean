/- Buckets: the checks of the program and of the reference; the drawn buckets. No program in sight. -/
import Derived.Test.YtblakecmhjcdmaaBukPmeas
import Derived.Test.YtblakecmhjcdmaaBukPnum
import Derived.Test.YtblakecmhjcdmaaPmap
set_option linter.unusedVariables false
set_option linter.unusedSimpArgs false
namespace Go.Beacon
open Go Go.Eng

theorem Out_in (n lo hi : Int) : base_Out n lo hi = !Q_in n lo hi := by
  rw [Out_eq, Qin_eq]
  rw [Bool.eq_iff_iff]
  simp only [Bool.or_eq_true, decide_eq_true_eq, Bool.not_eq_true', Bool.and_eq_false_iff, decide_eq_false_iff_not]
  omega
def ordB (p : Option Bucket) (b : Bucket) : Bool := match p with
  | none => false
  | some q => decide (b.Time.From ≤ q.Time.From)
noncomputable def bStep (L : Int) (prev : Option Bucket) (b : Bucket) : Int :=
  if (decide (b.Time.From < 0) || (decide (b.Time.To ≤ b.Time.From) || decide ((691372800000 : Int) < b.Time.To))) = true then 1
  else if w64 (b.Time.To - b.Time.From) ≠ L then 3
  else if b.Time.From.tmod (w64 (b.Time.To - b.Time.From)) ≠ 0 then 3
  else if base_Out b.Count 1 5000 = true then 1
  else if (decide (b.Max < b.Min) || (base_Out b.First b.Min b.Max || base_Out b.Last b.Min b.Max)) = true then 3
  else if (decide (b.Min < (-1000000000 : Int)) || decide ((1000000000 : Int) < b.Max)) = true then 1
  else if base_Out b.Sum (w64 (b.Count * b.Min)) (w64 (b.Count * b.Max)) = true then 3
  else if ordB prev b = true then 7 else 0
def lenB (l : List Bucket) : Int := match l with
  | [] => 0
  | b :: _ => w64 (b.Time.To - b.Time.From)
noncomputable def chkB (l : List Bucket) : Int := if (5000 : Int) < l.length then 2 else scanC (bStep (lenB l)) none l
theorem CheckBuckets_eq (l : List Bucket) : series_CheckBuckets l = some (chkB l) := by
  unfold series_CheckBuckets chkB
  split
  · rfl
  · rename_i hl
    unfold series_CheckBuckets_l1
    refine scan_all (bStep (lenB l)) l _ (fun {i s} h0 h1 hs => ?_) (by show series_CheckBuckets_b1 l _ = _; rw [series_CheckBuckets_b1, if_neg (by omega)]; rfl)
    show series_CheckBuckets_b1 l i = _
    rw [series_CheckBuckets_b1, if_pos h1, hs]
    simp only [Option.bind_some]
    unfold series_CheckBuckets_j1 bStep
    by_cases c1 : (decide (s.Time.From < 0) || (decide (s.Time.To ≤ s.Time.From) || decide ((691372800000 : Int) < s.Time.To))) = true
    · rw [if_pos c1, if_pos c1]; rfl
    · rw [if_neg c1, if_neg c1]
      have hb : 0 ≤ s.Time.From ∧ s.Time.From < s.Time.To ∧ s.Time.To ≤ 691372800000 := by
        simp only [Bool.or_eq_true, decide_eq_true_eq] at c1; omega
      have h00 : ∃ b, idx l 0 = some b ∧ w64 (b.Time.To - b.Time.From) = lenB l := by
        cases l with
        | nil => simp at h1; omega
        | cons b r => exact ⟨b, rfl, rfl⟩
      obtain ⟨b0, hb0, hb1⟩ := h00
      rw [hb0]
      simp only [Option.bind_some, hb1]
      by_cases c2 : w64 (s.Time.To - s.Time.From) ≠ lenB l
      · rw [if_pos c2, if_pos c2]; rfl
      · rw [if_neg c2, if_neg c2, rem_ne (by rw [w64_in (by omega) (by omega)]; omega)]
        simp only [Option.bind_some]
        unfold series_CheckBuckets_j2
        by_cases c3 : s.Time.From.tmod (w64 (s.Time.To - s.Time.From)) ≠ 0
        · rw [if_pos (by simpa using c3), if_pos c3]; rfl
        · rw [if_neg (by simpa using c3), if_neg c3]
          by_cases c4 : base_Out s.Count 1 5000 = true
          · rw [if_pos c4, if_pos c4]; rfl
          · rw [if_neg c4, if_neg c4]
            unfold series_CheckBuckets_j3
            by_cases c5 : (decide (s.Max < s.Min) || (base_Out s.First s.Min s.Max || base_Out s.Last s.Min s.Max)) = true
            · rw [if_pos c5, if_pos c5]; rfl
            · rw [if_neg c5, if_neg c5]
              unfold series_CheckBuckets_j4
              by_cases c6 : (decide (s.Min < (-1000000000 : Int)) || decide ((1000000000 : Int) < s.Max)) = true
              · rw [if_pos c6, if_pos c6]; rfl
              · rw [if_neg c6, if_neg c6]
                by_cases c7 : base_Out s.Sum (w64 (s.Count * s.Min)) (w64 (s.Count * s.Max)) = true
                · rw [if_pos c7, if_pos c7]; rfl
                · rw [if_neg c7, if_neg c7]
                  unfold series_CheckBuckets_j5
                  rw [w64_in (x := i + 1) (by omega) (by omega)]
                  by_cases hi : 0 < i
                  · obtain ⟨p, hp, _, _⟩ := idx_lt l (i := i - 1) (by omega) (by omega)
                    have hpa : prevOf l i = some p := by unfold prevOf; rw [if_neg (by omega), hp]
                    rw [hpa, if_pos hi, w64_in (by omega) (by omega), hp]
                    simp only [Option.bind_some]
                    show (if ordB (some p) s = true then _ else _) = _
                    cases ordB (some p) s <;> rfl
                  · have hpa : prevOf l i = none := by unfold prevOf; rw [if_pos (by omega)]
                    rw [hpa, if_neg hi]; rfl
theorem BucketsFault_eq (l : List Bucket) : Q_BucketsFault l = some (chkB l) := by
  rw [← CheckBuckets_eq]
  unfold Q_BucketsFault series_CheckBuckets Q_BucketsFault_l1 series_CheckBuckets_l1
  congr 2
  funext i
  unfold Q_BucketsFault_b1 series_CheckBuckets_b1 Q_BucketsFault_j1 series_CheckBuckets_j1 Q_BucketsFault_j2 series_CheckBuckets_j2 Q_BucketsFault_j3 series_CheckBuckets_j3 Q_BucketsFault_j4 series_CheckBuckets_j4 Q_BucketsFault_j5 series_CheckBuckets_j5
  simp only [Out_in]
/-! what right buckets are -/
structure BucR (b : Bucket) : Prop where
  time : 0 ≤ b.Time.From ∧ b.Time.From < b.Time.To ∧ b.Time.To ≤ 691372800000
  grid : b.Time.From % (b.Time.To - b.Time.From) = 0
  count : 1 ≤ b.Count ∧ b.Count ≤ 5000
  min : -1000000000 ≤ b.Min ∧ b.Min ≤ b.Max
  max : b.Max ≤ 1000000000
  sum : -5000000000000 ≤ b.Sum ∧ b.Sum ≤ 5000000000000
theorem bStep_R {L : Int} {p : Option Bucket} {b : Bucket} (h : bStep L p b = 0) : BucR b ∧ b.Time.To - b.Time.From = L ∧ ∀ q, p = some q → q.Time.From < b.Time.From := by
  unfold bStep at h
  split at h
  · cases h
  · rename_i c1
    have hb : 0 ≤ b.Time.From ∧ b.Time.From < b.Time.To ∧ b.Time.To ≤ 691372800000 := by
      simp only [Bool.or_eq_true, decide_eq_true_eq] at c1; omega
    have hw : w64 (b.Time.To - b.Time.From) = b.Time.To - b.Time.From := w64_in (by omega) (by omega)
    rw [hw] at h
    split at h
    · cases h
    · rename_i c2
      split at h
      · cases h
      · rename_i c3
        split at h
        · cases h
        · rename_i c4
          split at h
          · cases h
          · rename_i c5
            split at h
            · cases h
            · rename_i c6
              split at h
              · cases h
              · rename_i c7
                rw [Out_eq] at c4 c7
                simp only [Bool.or_eq_true, decide_eq_true_eq] at c4 c5 c6
                have hc : 1 ≤ b.Count ∧ b.Count ≤ 5000 := by omega
                have hm : -1000000000 ≤ b.Min ∧ b.Min ≤ b.Max ∧ b.Max ≤ 1000000000 := by omega
                have m1 := mul_bd (a := b.Count) (b := b.Min) (A := 5000) (B := 1000000000) (by omega) (by omega) (by omega) (by omega)
                have m2 := mul_bd (a := b.Count) (b := b.Max) (A := 5000) (B := 1000000000) (by omega) (by omega) (by omega) (by omega)
                rw [w64_in (by omega) (by omega), w64_in (by omega) (by omega)] at c7
                simp only [Bool.or_eq_true, decide_eq_true_eq] at c7
                have hg : b.Time.From % (b.Time.To - b.Time.From) = 0 := by
                  rw [← Int.tmod_eq_emod_of_nonneg hb.1]; exact Classical.byContradiction c3
                refine ⟨⟨hb, hg, hc, by omega, by omega, by omega⟩, Classical.byContradiction c2, fun q hq => ?_⟩
                subst hq
                unfold ordB at h
                simp only [decide_eq_true_eq] at h
                split at h
                · cases h
                · omega
theorem scanB_R {L : Int} : ∀ {l : List Bucket} {p : Option Bucket}, scanC (bStep L) p l = 0 → (∀ b ∈ l, BucR b ∧ b.Time.To - b.Time.From = L) ∧ l.Pairwise (fun a b => a.Time.From < b.Time.From) ∧ ∀ q, p = some q → ∀ b ∈ l, q.Time.From < b.Time.From
  | [], p, _ => ⟨fun x hx => by simp at hx, List.Pairwise.nil, fun q _ x hx => by simp at hx⟩
  | s :: r, p, h => by
    simp only [scanC] at h
    by_cases h0 : bStep L p s = 0
    · rw [if_pos h0] at h
      obtain ⟨a1, a2, a3⟩ := bStep_R h0
      obtain ⟨b1, b2, b3⟩ := scanB_R h
      refine ⟨fun x hx => ?_, List.pairwise_cons.2 ⟨b3 s rfl, b2⟩, fun q hq x hx => ?_⟩
      · rcases List.mem_cons.1 hx with rfl | hx
        · exact ⟨a1, a2⟩
        · exact b1 x hx
      · rcases List.mem_cons.1 hx with rfl | hx
        · exact a3 q hq
        · exact Int.lt_trans (a3 q hq) (b3 s rfl x hx)
    · rw [if_neg h0] at h; exact absurd h h0
theorem chkB_R {l : List Bucket} (h : chkB l = 0) : (∀ b ∈ l, BucR b ∧ b.Time.To - b.Time.From = lenB l) ∧ l.Pairwise (fun a b => a.Time.From < b.Time.From) ∧ l.length ≤ 5000 := by
  unfold chkB at h
  split at h
  · cases h
  · obtain ⟨a, b, _⟩ := scanB_R h; exact ⟨a, b, by omega⟩
/-! buckets of a series: there are some -/
theorem slMin_tot (l : List Int) (h : l ≠ []) (hl : l.length ≤ 100000) : ∃ m, slices_Min_int_int l = some m := by
  unfold slices_Min_int_int
  have h1 : 0 < l.length := List.length_pos_iff.2 h
  rw [if_neg (by omega)]
  obtain ⟨x, hx, _, _⟩ := idx_lt l (i := 0) (by omega) (by omega)
  rw [hx]
  simp only [Option.bind_some]
  unfold slices_Min_int_int_l1
  have := iter_inv (fun x : Int × Int => slices_Min_int_int_b1 l x.1 x.2) (fun x => l.length - x.2.toNat) (fun x => 0 ≤ x.2 ∧ x.2 ≤ l.length) (fun _ => True) (fun s hs => by
    obtain ⟨n, i⟩ := s
    simp only at hs ⊢
    unfold slices_Min_int_int_b1
    by_cases hi : i < (l.length : Int)
    · left
      rw [if_pos hi]
      obtain ⟨y, hy, _, _⟩ := idx_lt l (i := i) hs.1 hi
      rw [hy]
      simp only [Option.bind_some]
      rw [w64_in (by omega) (by omega)]
      exact ⟨_, rfl, by simp only; omega, by simp only; omega⟩
    · right; rw [if_neg hi]; exact ⟨_, rfl, trivial⟩) (x, 1) (by simp only; omega)
  obtain ⟨a, ha, _⟩ := this
  exact ⟨a, ha⟩
theorem slMax_tot (l : List Int) (h : l ≠ []) (hl : l.length ≤ 100000) : ∃ m, slices_Max_int_int l = some m := by
  unfold slices_Max_int_int
  have h1 : 0 < l.length := List.length_pos_iff.2 h
  rw [if_neg (by omega)]
  obtain ⟨x, hx, _, _⟩ := idx_lt l (i := 0) (by omega) (by omega)
  rw [hx]
  simp only [Option.bind_some]
  unfold slices_Max_int_int_l1
  have := iter_inv (fun x : Int × Int => slices_Max_int_int_b1 l x.1 x.2) (fun x => l.length - x.2.toNat) (fun x => 0 ≤ x.2 ∧ x.2 ≤ l.length) (fun _ => True) (fun s hs => by
    obtain ⟨n, i⟩ := s
    simp only at hs ⊢
    unfold slices_Max_int_int_b1
    by_cases hi : i < (l.length : Int)
    · left
      rw [if_pos hi]
      obtain ⟨y, hy, _, _⟩ := idx_lt l (i := i) hs.1 hi
      rw [hy]
      simp only [Option.bind_some]
      rw [w64_in (by omega) (by omega)]
      exact ⟨_, rfl, by simp only; omega, by simp only; omega⟩
    · right; rw [if_neg hi]; exact ⟨_, rfl, trivial⟩) (x, 1) (by simp only; omega)
  obtain ⟨a, ha, _⟩ := this
  exact ⟨a, ha⟩
theorem bucketOf_tot (w : Window) (l : List Int) (h : l ≠ []) (hl : l.length ≤ 100000) : ∃ b, Q_bucketOf w l = some b := by
  obtain ⟨m1, h1⟩ := slMin_tot l h hl
  obtain ⟨m2, h2⟩ := slMax_tot l h hl
  have h3 : 0 < l.length := List.length_pos_iff.2 h
  obtain ⟨x, hx, _, _⟩ := idx_lt l (i := 0) (by omega) (by omega)
  obtain ⟨y, hy, _, _⟩ := idx_lt l (i := (l.length : Int) - 1) (by omega) (by omega)
  unfold Q_bucketOf
  rw [h1, h2, hx, w64_in (by omega) (by omega), hy]
  simp only [Option.bind_some]
  unfold Q_bucketOf_l1
  have := iter_inv (fun z : Int × Int => Q_bucketOf_b1 w l m1 m2 x y z.1 z.2) (fun x => l.length - x.2.toNat) (fun x => 0 ≤ x.2 ∧ x.2 ≤ l.length) (fun _ => True) (fun s hs => by
    obtain ⟨n, i⟩ := s
    simp only at hs ⊢
    unfold Q_bucketOf_b1
    by_cases hi : i < (l.length : Int)
    · left
      rw [if_pos hi]
      obtain ⟨y, hy, _, _⟩ := idx_lt l (i := i) hs.1 hi
      rw [hy]
      simp only [Option.bind_some]
      rw [w64_in (x := i + 1) (by omega) (by omega)]
      exact ⟨_, rfl, by simp only; omega, by simp only; omega⟩
    · right; rw [if_neg hi]; exact ⟨_, rfl, trivial⟩) (0, 0) (by simp only; omega)
  obtain ⟨a, ha, _⟩ := this
  exact ⟨a, ha⟩
def inM (m : List (Int × List Int)) (k : Int) : List Int := (mget? m k).getD []
theorem BucketsOf_l2_tot (long : Int) (m : List (Int × List Int)) (o : List Int) (hm : ∀ k ∈ o, inM m k ≠ []) (hl : ∀ k, (inM m k).length ≤ 1000) (ho : o.length ≤ 1000) : ∃ r, Q_BucketsOf_l2 long m o [] 0 = some r ∧ r.length ≤ 1000 := by
  unfold Q_BucketsOf_l2
  obtain ⟨a, h1, h2⟩ := iter_inv (fun x : (List Bucket) × Int => Q_BucketsOf_b2 long m o x.1 x.2) (fun x => o.length - x.2.toNat) (fun x => 0 ≤ x.2 ∧ x.2 ≤ o.length ∧ (x.1.length : Int) = x.2) (fun r => r.length ≤ 1000) (fun s hs => by
    obtain ⟨l, i⟩ := s
    simp only at hs ⊢
    unfold Q_BucketsOf_b2
    by_cases hi : i < (o.length : Int)
    · left
      rw [if_pos hi]
      obtain ⟨k, hk, hkm, _⟩ := idx_lt o (i := i) hs.1 hi
      rw [hk]
      simp only [Option.bind_some]
      rw [show mgetO m k [] = some (inM m k) from rfl]
      simp only [Option.bind_some]
      obtain ⟨b, hb⟩ := bucketOf_tot (⟨w64 (k * long), w64 ((w64 (k + (1 : Int))) * long)⟩ : Window) (inM m k) (hm k hkm) (by have := hl k; omega)
      rw [hb]
      simp only [Option.bind_some]
      rw [app_le (by simp; omega), w64_in (x := i + 1) (by omega) (by omega)]
      exact ⟨_, rfl, by simp; omega, by simp only; omega⟩
    · right; rw [if_neg hi]; exact ⟨l, rfl, by omega⟩) ([], 0) (by simp)
  exact ⟨a, h1, h2⟩
theorem BucketsOf_tot (xs : List Sample) (w : Window) (long : Int) (hlong : long ≠ 0) (hl : xs.length ≤ 500) : ∃ r, Q_BucketsOf xs w long = some r ∧ r.length ≤ 1000 := by
  unfold Q_BucketsOf Q_BucketsOf_l1
  refine iter_inv (fun x : (List (Int × (List Int))) × (List Int) × Int => Q_BucketsOf_b1 xs w long x.1 x.2.1 x.2.2) (fun x => xs.length - x.2.2.toNat) (fun x => 0 ≤ x.2.2 ∧ x.2.2 ≤ xs.length ∧ (x.2.1.length : Int) ≤ x.2.2 ∧ (∀ k ∈ x.2.1, inM x.1 k ≠ []) ∧ ∀ k, ((inM x.1 k).length : Int) ≤ x.2.2) (fun r => r.length ≤ 1000) (fun s hs => ?_) ([], [], 0) ⟨by simp, by simp, by simp, by simp, fun k => by simp [inM, mget?]⟩
  obtain ⟨m, o, i⟩ := s
  obtain ⟨h0, h1, h2, h3, h4⟩ := hs
  simp only at h0 h1 h2 h3 h4 ⊢
  unfold Q_BucketsOf_b1
  by_cases hi : i < (xs.length : Int)
  · left
    rw [if_pos hi]
    obtain ⟨s, hs, _, _⟩ := idx_lt xs (i := i) h0 hi
    rw [hs]
    simp only [Option.bind_some]
    have wi : w64 (i + 1) = i + 1 := w64_in (by omega) (by omega)
    unfold Q_BucketsOf_j1
    by_cases hw : (!Q_within s.At w) = true
    · rw [if_pos hw, wi]
      exact ⟨_, rfl, ⟨by simp only; omega, by simp only; omega, by simp only; omega, h3, fun k => by have := h4 k; simp only; omega⟩, by simp only; omega⟩
    · rw [if_neg hw, quo_ne hlong]
      simp only [Option.bind_some]
      generalize w64 (s.At.tdiv long) = k
      rw [show mgetO m k [] = some (inM m k) from rfl]
      simp only [Option.bind_some]
      have hk4 := h4 k
      have new : ∀ o' : List Int, (∀ q ∈ o', q = k ∨ q ∈ o) → (o'.length : Int) ≤ i + 1 → ∃ s' : (List (Int × (List Int))) × (List Int) × Int, Q_BucketsOf_j2 m i s k o' = some (.inl s') ∧ (0 ≤ s'.2.2 ∧ s'.2.2 ≤ xs.length ∧ (s'.2.1.length : Int) ≤ s'.2.2 ∧ (∀ q ∈ s'.2.1, inM s'.1 q ≠ []) ∧ ∀ q, ((inM s'.1 q).length : Int) ≤ s'.2.2) ∧ xs.length - s'.2.2.toNat < xs.length - i.toNat := by
        intro o' ho' hlo
        unfold Q_BucketsOf_j2
        rw [show mgetO m k [] = some (inM m k) from rfl]
        simp only [Option.bind_some]
        rw [app_le (by simp; omega)]
        simp only [Option.bind_some]
        unfold Q_BucketsOf_j1
        rw [wi]
        have hget : ∀ q, inM (mset m k (inM m k ++ [s.Value])) q = if k = q then inM m k ++ [s.Value] else inM m q := by
          intro q
          unfold inM
          rw [mget_mset]
          split <;> rfl
        refine ⟨_, rfl, ⟨by simp only; omega, by simp only; omega, by simpa using hlo, fun q hq => ?_, fun q => ?_⟩, by simp only; omega⟩
        · rw [hget]
          split
          · simp
          · rename_i hne
            rcases ho' q hq with h | h
            · exact absurd h.symm hne
            · exact h3 q h
        · rw [hget]
          have := h4 q
          split
          · simp; omega
          · simp only; omega
      by_cases he : ((inM m k).length : Int) = 0
      · rw [if_pos he, app_le (by simp; omega)]
        simp only [Option.bind_some]
        exact new (o ++ [k]) (fun q hq => by simp at hq; exact hq.symm) (by simp; omega)
      · rw [if_neg he]
        exact new o (fun q hq => .inr hq) (by omega)
  · right
    rw [if_neg hi]
    obtain ⟨r, g1, g2⟩ := BucketsOf_l2_tot long m o h3 (fun k => by have := h4 k; omega) (by omega)
    rw [g1]
    exact ⟨r, rfl, g2⟩
theorem RightBuckets_ok {s : Stm} {long k : Int} (hs : SOk s (k + 41)) (hlong : long ≠ 0) (hk : 0 ≤ k) : Gen (Stream_RightBuckets s long) k (fun l => l.length ≤ 1000) := by
  unfold Stream_RightBuckets
  refine Gen.bind (RightSeries_ok (k := k) hs (by omega) (by omega) hk) (fun v s' hv hs' => ?_)
  obtain ⟨r, h1, h2⟩ := BucketsOf_tot v (⟨0, 5000⟩ : Window) long hlong (by have := hv.1; omega)
  simp only
  rw [h1]
  exact Gen.ret h2 hs'
theorem SpoiltBuckets_ok {s : Stm} {l : List Bucket} {k : Int} (hs : SOk s (k + 6)) (hk : 0 ≤ k) (hl : l.length ≤ 1000) : Gen (Stream_SpoiltBuckets s l) k (fun l => l.length ≤ 1000) := by
  unfold Stream_SpoiltBuckets
  split
  · exact Gen.ret hl (hs.less (by omega))
  · refine Gen.bind (Next_ok (k := k + 5) (hs.less (by omega)) (by omega) (by omega) (by omega)) (fun i s1 hi hs1 => ?_)
    obtain ⟨b, hb, _, _⟩ := idx_lt l hi.1 hi.2
    simp only [hb, Option.bind_some]
    refine Gen.bind (Next_ok (k := k + 4) (hs1.less (by omega)) (by omega) (by omega) (by omega)) (fun c s2 hc hs2 => ?_)
    unfold Stream_SpoiltBuckets_j5 Stream_SpoiltBuckets_j4 Stream_SpoiltBuckets_j3 Stream_SpoiltBuckets_j2 Stream_SpoiltBuckets_j1
    simp only
    split
    · refine Gen.bind (Odd_ok (k := k + 2) (hs2.less (by omega)) (by omega) (by omega) (by omega) (by omega)) (fun d s3 hd hs3 => ?_)
      exact Gen.ret (by simpa using hl) (hs3.less (by omega))
    · split
      · refine Gen.bind (Odd_ok (k := k + 2) (hs2.less (by omega)) (by omega) (by omega) (by omega) (by omega)) (fun d s3 hd hs3 => ?_)
        exact Gen.ret (by simpa using hl) (hs3.less (by omega))
      · split
        · refine Gen.bind (Odd_ok (k := k + 2) (hs2.less (by omega)) (by omega) (by omega) (by omega) (by omega)) (fun d s3 hd hs3 => ?_)
          exact Gen.ret (by simpa using hl) (hs3.less (by omega))
        · split
          · refine Gen.bind (Odd_ok (k := k + 2) (hs2.less (by omega)) (by omega) (by omega) (by omega) (by omega)) (fun d s3 hd hs3 => ?_)
            exact Gen.ret (by simpa using hl) (hs3.less (by omega))
          · split
            · refine Gen.bind (Odd_ok (k := k + 2) (hs2.less (by omega)) (by omega) (by omega) (by omega) (by omega)) (fun d s3 hd hs3 => ?_)
              refine Gen.bind (Odd_ok (k := k) (hs3.less (by omega)) (by omega) (by omega) (by omega) (by omega)) (fun e s4 he hs4 => ?_)
              exact Gen.ret (by simpa using hl) (hs4.less (by omega))
            · refine Gen.bind (Odd_ok (k := k + 2) (hs2.less (by omega)) (by omega) (by omega) (by omega) (by omega)) (fun d s3 hd hs3 => ?_)
              refine Gen.bind (Odd_ok (k := k) (hs3.less (by omega)) (by omega) (by omega) (by omega) (by omega)) (fun e s4 he hs4 => ?_)
              exact Gen.ret (by simpa using hl) (hs4.less (by omega))
end Go.Beacon
