/- The law CountersRead as a plain statement. No program in sight. -/
import Derived.Test.YtbcbhhbbejcnnaaCouPser
import Derived.Test.YtbcbhhbbejcnnaaCouPmeas
set_option linter.unusedVariables false
set_option linter.unusedSimpArgs false
namespace Go.Beacon
open Go Go.Eng

/-! Rises -/
def riseOf (x y : Sample) : Rise := ⟨x.At, y.At, if y.Value - x.Value < 0 then y.Value else y.Value - x.Value, decide (y.Value - x.Value < 0)⟩
def rl : List Sample → List Rise
  | x :: y :: r => riseOf x y :: rl (y :: r)
  | _ => []
theorem rl_len : ∀ xs : List Sample, (rl xs).length ≤ xs.length
  | [] => by simp [rl]
  | [x] => by simp [rl]
  | x :: y :: r => by have := rl_len (y :: r); simp [rl] at *; omega
theorem rl_by : ∀ xs : List Sample, (∀ x ∈ xs, SampB x) → ∀ z ∈ rl xs, -8796093022208 ≤ z.By ∧ z.By ≤ 8796093022208
  | [], _, z, hz => by simp [rl] at hz
  | [x], _, z, hz => by simp [rl] at hz
  | x :: y :: r, hB, z, hz => by
    simp only [rl, List.mem_cons] at hz
    rcases hz with rfl | hz
    · have b1 := (hB x (by simp)).2; have b2 := (hB y (by simp)).2
      unfold riseOf; simp only; split <;> omega
    · exact rl_by (y :: r) (fun x hx => hB x (by simp [List.mem_cons.1 hx])) z hz
theorem two_at {xs : List Sample} {i : Int} (h1 : 1 ≤ i) (h2 : i < xs.length) : ∃ x y, idx xs (i - 1) = some x ∧ idx xs i = some y ∧ x ∈ xs ∧ y ∈ xs ∧ xs.drop (i - 1).toNat = x :: y :: xs.drop (i + 1).toNat ∧ xs.drop i.toNat = y :: xs.drop (i + 1).toNat := by
  obtain ⟨x, hx, hxm, hd⟩ := idx_lt xs (i := i - 1) (by omega) (by omega)
  obtain ⟨y, hy, hym, hd'⟩ := idx_lt xs (i := i) (by omega) h2
  refine ⟨x, y, hx, hy, hxm, hym, ?_, hd'⟩
  rw [hd, show i - 1 + 1 = i by omega, hd']
theorem rl_end {xs : List Sample} {i : Int} (h1 : 1 ≤ i) (h2 : ¬ i < xs.length) : rl (xs.drop (i - 1).toNat) = [] := by
  have : (xs.drop (i - 1).toNat).length ≤ 1 := by simp; omega
  match xs.drop (i - 1).toNat, this with
  | [], _ => rfl
  | [x], _ => rfl
theorem rises_loop (xs : List Sample) (hB : ∀ x ∈ xs, SampB x) (hl : (xs.length : Int) ≤ 5000) : ∀ (n : Nat) (acc : List Rise) (i : Int), 1 ≤ i → (xs.length : Int) ≤ i + n → i ≤ 5001 → (acc.length : Int) ≤ i →
    series_rises_l1 xs acc i = some (acc ++ rl (xs.drop (i - 1).toNat), 0) ∧ Q_RisesOf_l1 xs acc i = some (acc ++ rl (xs.drop (i - 1).toNat)) := by
  intro n
  induction n with
  | zero =>
    intro acc i h1 h2 h3 h4
    unfold series_rises_l1 Q_RisesOf_l1
    rw [iter_eq, series_rises_b1, if_neg (by simp only; omega), map_inr_after, iter_eq, Q_RisesOf_b1, if_neg (by simp only; omega), map_inr_after, rl_end h1 (by omega)]
    simp
  | succ n ih =>
    intro acc i h1 h2 h3 h4
    by_cases hi : i < xs.length
    · obtain ⟨x, y, hx, hy, hxm, hym, hd, hd'⟩ := two_at h1 hi
      have b1 := (hB x hxm).2; have b2 := (hB y hym).2
      have w1 : w64 (i - 1) = i - 1 := by rw [w64_in] <;> omega
      have w2 : w64 (i + 1) = i + 1 := by rw [w64_in] <;> omega
      have w3 : w64 (y.Value - x.Value) = y.Value - x.Value := by rw [w64_in] <;> omega
      have hrl : rl (xs.drop (i - 1).toNat) = riseOf x y :: rl (xs.drop (i + 1 - 1).toNat) := by
        rw [hd, show i + 1 - 1 = i by omega, hd']; rfl
      obtain ⟨r1, r2⟩ := ih (acc ++ [riseOf x y]) (i + 1) (by omega) (by omega) (by omega) (by simp; omega)
      rw [hrl]
      constructor
      · unfold series_rises_l1 at r1 ⊢
        rw [iter_eq, series_rises_b1, if_pos (by simp only; omega)]
        simp only [w1, hx, hy, Option.bind_some, w3]
        unfold series_rises_j1
        by_cases hlt : y.Value - x.Value < 0
        · rw [if_pos hlt, app_le (by simp; omega)]
          simp only [Option.bind_some, after_inl, w2]
          rw [show (⟨x.At, y.At, y.Value, true⟩ : Rise) = riseOf x y by unfold riseOf; simp [hlt], r1]
          simp
        · rw [if_neg hlt, app_le (by simp; omega)]
          simp only [Option.bind_some, after_inl, w2]
          rw [show (⟨x.At, y.At, y.Value - x.Value, false⟩ : Rise) = riseOf x y by unfold riseOf; simp [hlt], r1]
          simp
      · unfold Q_RisesOf_l1 at r2 ⊢
        rw [iter_eq, Q_RisesOf_b1, if_pos (by simp only; omega)]
        simp only [w1, hx, hy, Option.bind_some, w3]
        unfold Q_RisesOf_j1
        by_cases hlt : y.Value - x.Value < 0
        · rw [if_neg (by omega), app_le (by simp; omega)]
          simp only [Option.bind_some, after_inl, w2]
          rw [show (⟨x.At, y.At, y.Value, decide (y.Value < x.Value)⟩ : Rise) = riseOf x y by unfold riseOf; simp [hlt]; omega, r2]
          simp
        · rw [if_pos (by omega), app_le (by simp; omega)]
          simp only [Option.bind_some, after_inl, w2]
          rw [show (⟨x.At, y.At, y.Value - x.Value, decide (y.Value < x.Value)⟩ : Rise) = riseOf x y by unfold riseOf; simp [hlt]; omega, r2]
          simp
    · unfold series_rises_l1 Q_RisesOf_l1
      rw [iter_eq, series_rises_b1, if_neg (by simp only; omega), map_inr_after, iter_eq, Q_RisesOf_b1, if_neg (by simp only; omega), map_inr_after, rl_end h1 hi]
      simp
def negB (xs : List Sample) : Bool := xs.any (fun s => decide (s.Value < 0))
theorem neg_any (xs : List Sample) (hl : (xs.length : Int) ≤ 5000) : slices_ContainsFunc_Sample_Sample xs (fun y0 => some (series_rises_1x y0)) = some (negB xs) :=
  gContainsFunc_eq xs _ (fun s => decide (s.Value < 0)) (fun x _ => rfl) (by omega)
theorem CounterFault_eq (xs : List Sample) (hl : (xs.length : Int) ≤ 5000) : Q_CounterFault xs = some (if negB xs = true then 1 else 0) := by
  unfold Q_CounterFault
  have : slices_ContainsFunc_Sample_Sample xs (fun y0 => some (Q_CounterFault_1x y0)) = some (negB xs) := neg_any xs hl
  rw [this]
  simp only [Option.bind_some]
  split <;> rfl
theorem rises_eq (xs : List Sample) (hB : ∀ x ∈ xs, SampB x) (hl : (xs.length : Int) ≤ 5000) : series_rises xs = some (if negB xs = true then ([], 1) else (rl xs, 0)) := by
  unfold series_rises
  rw [neg_any xs hl]
  simp only [Option.bind_some]
  split
  · rfl
  · rw [(rises_loop xs hB hl xs.length [] 1 (by omega) (by omega) (by omega) (by simp)).1]
    simp
theorem RisesOf_eq (xs : List Sample) (hB : ∀ x ∈ xs, SampB x) (hl : (xs.length : Int) ≤ 5000) : Q_RisesOf xs = some (rl xs) := by
  unfold Q_RisesOf
  rw [(rises_loop xs hB hl xs.length [] 1 (by omega) (by omega) (by omega) (by simp)).2]
  simp

/-! Grown -/
def growF (w : Window) : List Rise → Int → Int
  | [], n => n
  | z :: r, n => growF w r (if w.From < z.To ∧ z.To ≤ w.To then n + z.By else n)
theorem grow_loop (w : Window) (hw : WinB w) (rs : List Rise) (e : Int) (hb : ∀ z ∈ rs, -8796093022208 ≤ z.By ∧ z.By ≤ 8796093022208) (hl : (rs.length : Int) ≤ 5000) : ∀ (k : Nat) (i n : Int), 0 ≤ i → i + k = rs.length → (-8796093022208 * i ≤ n ∧ n ≤ 8796093022208 * i) →
    series_Grown_l1 w (rs, e) n i = some (growF w (rs.drop i.toNat) n, e) ∧ Q_GrownOf_l1 w rs n i = some (growF w (rs.drop i.toNat) n) := by
  intro k
  induction k with
  | zero =>
    intro i n h0 h1 h2
    unfold series_Grown_l1 Q_GrownOf_l1
    rw [iter_eq, series_Grown_b1, if_neg (by simp only; omega), map_inr_after, iter_eq, Q_GrownOf_b1, if_neg (by simp only; omega), map_inr_after, List.drop_of_length_le (by omega)]
    exact ⟨rfl, rfl⟩
  | succ k ih =>
    intro i n h0 h1 h2
    obtain ⟨z, hz, hzm, hd⟩ := idx_lt rs h0 (by omega)
    have hbz := hb z hzm
    have w1 : w64 (i + 1) = i + 1 := by rw [w64_in] <;> omega
    have w2 : w64 (n + z.By) = n + z.By := by rw [w64_in] <;> omega
    have w3 : w64 (w.From + 1) = w.From + 1 := by have := hw.1; rw [w64_in] <;> omega
    obtain ⟨r1, r2⟩ := ih (i + 1) (if w.From < z.To ∧ z.To ≤ w.To then n + z.By else n) (by omega) (by omega) (by split <;> omega)
    rw [hd]
    simp only [growF]
    constructor
    · unfold series_Grown_l1 at r1 ⊢
      rw [iter_eq, series_Grown_b1, if_pos (by simp only; omega)]
      simp only [hz, Option.bind_some]
      unfold series_Grown_j1 series_Grown_j2
      by_cases hc : w.From < z.To ∧ z.To ≤ w.To
      · rw [if_pos (by simpa using hc)]
        rw [if_pos hc] at r1 ⊢
        simp only [Option.bind_some, after_inl, w1, w2]; exact r1
      · rw [if_neg (by simpa using hc)]
        rw [if_neg hc] at r1 ⊢
        simp only [Option.bind_some, after_inl, w1]; exact r1
    · unfold Q_GrownOf_l1 at r2 ⊢
      rw [iter_eq, Q_GrownOf_b1, if_pos (by simp only; omega)]
      simp only [hz, Option.bind_some]
      unfold Q_GrownOf_j1
      rw [Qin_eq, w3]
      by_cases hc : w.From < z.To ∧ z.To ≤ w.To
      · rw [if_pos (by simp; omega)]
        rw [if_pos hc] at r2 ⊢
        simp only [Option.bind_some, after_inl, w1, w2]; exact r2
      · rw [if_neg (by simp; omega)]
        rw [if_neg hc] at r2 ⊢
        simp only [Option.bind_some, after_inl, w1]; exact r2

/-! Gaps -/
def gp (most : Int) : Int → List Int → List Window
  | _, [] => []
  | a, t :: r => (if most < t - a then [⟨a, t⟩] else []) ++ gp most t r
def pts (w : Window) : List Sample → List Int
  | [] => []
  | s :: r => if w.From ≤ s.At ∧ s.At < w.To then s.At :: pts w r else pts w r
theorem gp_len (most : Int) : ∀ (l : List Int) (a : Int), (gp most a l).length ≤ l.length
  | [], a => by simp [gp]
  | t :: r, a => by
    have := gp_len most r t
    simp only [gp, List.length_append, List.length_cons]
    split <;> simp <;> omega
theorem pts_len (w : Window) : ∀ l : List Sample, (pts w l).length ≤ l.length
  | [] => by simp [pts]
  | s :: r => by
    have := pts_len w r
    simp only [pts]
    split <;> simp <;> omega
theorem step_eq (t a most : Int) (out : List Window) (h1 : -9000000000000000000 ≤ t - a ∧ t - a ≤ 9000000000000000000) (hl : out.length ≤ 100000) : series_Gaps_1x t a most out = some (t, out ++ if most < t - a then [⟨a, t⟩] else []) := by
  unfold series_Gaps_1x series_Gaps_1x_j1
  rw [w64_in (by omega) (by omega)]
  split
  · rw [app_le (by simp; omega)]; rfl
  · simp
theorem gaps_loop (xs : List Sample) (hB : ∀ x ∈ xs, SampB x) (w : Window) (hw : WinB w) (most : Int) (hl : (xs.length : Int) ≤ 5000) : ∀ (n : Nat) (out : List Window) (a i : Int), 0 ≤ i → i + n = xs.length → (out.length : Int) ≤ i → (-4398046511104 ≤ a ∧ a ≤ 4398046511104) →
    series_Gaps_l1 xs w most out a i = some (out ++ gp most a (pts w (xs.drop i.toNat) ++ [w.To]), 0) := by
  intro n
  induction n with
  | zero =>
    intro out a i h0 h1 h2 h3
    unfold series_Gaps_l1
    rw [iter_eq, series_Gaps_b1, if_neg (by simp only; omega), map_inr_after, List.drop_of_length_le (by omega)]
    unfold series_Gaps_k2
    have := hw.2
    rw [step_eq _ _ _ _ (by simp only; omega) (by simp only; omega)]
    simp [pts, gp]
  | succ n ih =>
    intro out a i h0 h1 h2 h3
    obtain ⟨s, hs, hsm, hd⟩ := idx_lt xs h0 (by omega)
    have b1 := (hB s hsm).1
    have w1 : w64 (i + 1) = i + 1 := by rw [w64_in] <;> omega
    unfold series_Gaps_l1 at ih ⊢
    rw [iter_eq, series_Gaps_b1, if_pos (by simp only; omega)]
    simp only [hs, Option.bind_some]
    unfold series_Gaps_j1
    rw [hd, show series_in w s.At = (decide (w.From ≤ s.At) && decide (s.At < w.To)) from rfl]
    simp only [pts]
    by_cases hc : w.From ≤ s.At ∧ s.At < w.To
    · rw [if_pos (by simpa using hc), if_pos hc, step_eq _ _ _ _ (by omega) (by omega)]
      simp only [Option.bind_some, after_inl, w1]
      rw [ih _ s.At (i + 1) (by omega) (by omega) (by simp only [List.length_append]; split <;> simp <;> omega) b1]
      simp [gp]
    · rw [if_neg (by simpa using hc), if_neg hc]
      simp only [Option.bind_some, after_inl, w1]
      exact ih out a (i + 1) (by omega) (by omega) (by omega) h3
theorem gaps2_loop (most : Int) (E : List Int) (hE : ∀ t ∈ E, -4398046511104 ≤ t ∧ t ≤ 4398046511104) (hl : (E.length : Int) ≤ 6000) : ∀ (n : Nat) (out : List Window) (i a : Int), 1 ≤ i → i + n = E.length → (out.length : Int) ≤ i → idx E (i - 1) = some a →
    Q_GapsOf_l2 most E out i = some (out ++ gp most a (E.drop i.toNat)) := by
  intro n
  induction n with
  | zero =>
    intro out i a h0 h1 h2 ha
    unfold Q_GapsOf_l2
    rw [iter_eq, Q_GapsOf_b2, if_neg (by simp only; omega), map_inr_after, List.drop_of_length_le (by omega)]
    simp [gp]
  | succ n ih =>
    intro out i a h0 h1 h2 ha
    obtain ⟨t, ht, htm, hd⟩ := idx_lt E (i := i) (by omega) (by omega)
    have b1 := hE t htm; have b2 := hE a (idx_mem ha)
    have w1 : w64 (i + 1) = i + 1 := by rw [w64_in] <;> omega
    have w2 : w64 (i - 1) = i - 1 := by rw [w64_in] <;> omega
    have w3 : w64 (t - a) = t - a := by rw [w64_in] <;> omega
    unfold Q_GapsOf_l2 at ih ⊢
    rw [iter_eq, Q_GapsOf_b2, if_pos (by simp only; omega)]
    simp only [ht, ha, w2, w3, Option.bind_some]
    unfold Q_GapsOf_j2
    rw [hd, w1]
    simp only [gp]
    by_cases hc : most < t - a
    · rw [if_pos hc, if_pos hc, app_le (by simp; omega)]
      simp only [Option.bind_some, after_inl]
      rw [ih _ (i + 1) t (by omega) (by omega) (by simp; omega) (by rw [show i + 1 - 1 = i by omega]; exact ht)]
      simp
    · rw [if_neg hc, if_neg hc]
      simp only [Option.bind_some, after_inl]
      rw [ih _ (i + 1) t (by omega) (by omega) (by omega) (by rw [show i + 1 - 1 = i by omega]; exact ht)]
      simp
theorem ends_loop (xs : List Sample) (w : Window) (most : Int) (hl : (xs.length : Int) ≤ 5000) : ∀ (n : Nat) (ends : List Int) (i : Int), 0 ≤ i → i + n = xs.length → (ends.length : Int) ≤ i + 1 →
    Q_GapsOf_l1 xs w most ends i = Q_GapsOf_k3 w most (ends ++ pts w (xs.drop i.toNat)) := by
  intro n
  induction n with
  | zero =>
    intro ends i h0 h1 h2
    unfold Q_GapsOf_l1
    rw [iter_eq, Q_GapsOf_b1, if_neg (by simp only; omega), map_inr_after, List.drop_of_length_le (by omega)]
    simp [pts]
  | succ n ih =>
    intro ends i h0 h1 h2
    obtain ⟨s, hs, hsm, hd⟩ := idx_lt xs h0 (by omega)
    have w1 : w64 (i + 1) = i + 1 := by rw [w64_in] <;> omega
    unfold Q_GapsOf_l1 at ih ⊢
    rw [iter_eq, Q_GapsOf_b1, if_pos (by simp only; omega)]
    simp only [hs, Option.bind_some]
    unfold Q_GapsOf_j1
    rw [hd, show Q_within s.At w = (decide (w.From ≤ s.At) && decide (s.At < w.To)) from rfl]
    simp only [pts]
    by_cases hc : w.From ≤ s.At ∧ s.At < w.To
    · rw [if_pos (by simpa using hc), if_pos hc, app_le (by simp; omega)]
      simp only [Option.bind_some, after_inl, w1]
      rw [ih _ (i + 1) (by omega) (by omega) (by simp; omega)]
      simp
    · rw [if_neg (by simpa using hc), if_neg hc]
      simp only [Option.bind_some, after_inl, w1]
      exact ih ends (i + 1) (by omega) (by omega) (by omega)
theorem pts_mem (w : Window) : ∀ (xs : List Sample), (∀ x ∈ xs, SampB x) → ∀ t ∈ pts w xs, -4398046511104 ≤ t ∧ t ≤ 4398046511104
  | [], _, t, ht => by simp [pts] at ht
  | s :: r, hB, t, ht => by
    simp only [pts] at ht
    split at ht
    · rcases List.mem_cons.1 ht with rfl | ht
      · exact (hB s (by simp)).1
      · exact pts_mem w r (fun x hx => hB x (by simp [hx])) t ht
    · exact pts_mem w r (fun x hx => hB x (by simp [hx])) t ht
theorem GapsOf_eq (xs : List Sample) (hB : ∀ x ∈ xs, SampB x) (w : Window) (hw : WinB w) (most : Int) (hl : (xs.length : Int) ≤ 5000) : Q_GapsOf xs w most = some (gp most w.From (pts w xs ++ [w.To])) := by
  unfold Q_GapsOf
  rw [ends_loop xs w most hl xs.length [w.From] 0 (by omega) (by omega) (by simp)]
  unfold Q_GapsOf_k3
  have hp := pts_len w xs
  rw [show xs.drop (0 : Int).toNat = xs from rfl, app_le (by simp; omega)]
  simp only [Option.bind_some]
  have hE : ∀ t ∈ [w.From] ++ pts w xs ++ [w.To], -4398046511104 ≤ t ∧ t ≤ 4398046511104 := by
    intro t ht
    simp only [List.cons_append, List.nil_append, List.mem_cons, List.mem_append, List.not_mem_nil, or_false] at ht
    have h1 := hw.1; have h2 := hw.2
    rcases ht with rfl | ht | rfl
    · omega
    · exact pts_mem w xs hB t ht
    · omega
  rw [gaps2_loop most _ hE (by simp; omega) (([w.From] ++ pts w xs ++ [w.To]).length - 1) [] 1 w.From (by omega) (by simp; omega) (by simp) rfl]
  simp

theorem j4_ok (rs : List Rise) (e1 n e2 : Int) (ws : List Window) (e3 : Int) (h1 : (rs.length : Int) ≤ 100000) (h2 : (ws.length : Int) ≤ 100000) : L_CountersRead_j4 (rs, e1) (n, e2) (ws, e3) e1 e2 e3 rs n ws = some true := by
  unfold L_CountersRead_j4 L_CountersRead_j5
  have q1 : slices_Equal_Rise_Rise rs rs = some (decide (rs = rs)) := gEqual_eq rs rs (by omega)
  have q2 : slices_Equal_Window_Window ws ws = some (decide (ws = ws)) := gEqual_eq ws ws (by omega)
  simp only [q1, q2, if_true, Option.bind_some, decide_true, measured_eq]

def risesE (a : List Sample) : List Rise × Int := if chkS a ≠ 0 then ([], chkS a) else if negB a = true then ([], 1) else (rl a, 0)
def grownE (a : List Sample) (w : Window) : Int × Int := if faultS a w ≠ 0 then (0, faultS a w) else if negB a = true then (0, 1) else (growF w (rl a) 0, 0)
def gapsE (a : List Sample) (w : Window) (most : Int) : List Window × Int := if faultS a w ≠ 0 then ([], faultS a w) else if most < 1 ∨ 345686400000 < most then ([], 1) else (gp most w.From (pts w a ++ [w.To]), 0)

theorem Rises_eq (a : List Sample) (hB : ∀ x ∈ a, SampB x) (hl : (a.length : Int) ≤ 20) : series_Rises a = some (risesE a) := by
  unfold series_Rises risesE
  rw [CheckSeries_eq]
  simp only [Option.bind_some]
  split
  · rfl
  · rw [rises_eq a hB (by omega)]
    split <;> rfl
theorem Grown_eq (a : List Sample) (hB : ∀ x ∈ a, SampB x) (hl : (a.length : Int) ≤ 20) (w : Window) (hw : WinB w) : series_Grown a w = some (grownE a w) := by
  unfold series_Grown grownE
  rw [fault_eq]
  simp only [Option.bind_some]
  split
  · rfl
  · rw [rises_eq a hB (by omega)]
    simp only [Option.bind_some]
    have hr := rl_len a
    split
    · rw [(grow_loop w hw [] 1 (by simp) (by simp) 0 0 0 (by omega) (by simp) (by omega)).1]; rfl
    · rw [(grow_loop w hw (rl a) 0 (rl_by a hB) (by omega) (rl a).length 0 0 (by omega) (by omega) (by omega)).1]; rfl
theorem GrownOf_eq (a : List Sample) (hB : ∀ x ∈ a, SampB x) (hl : (a.length : Int) ≤ 20) (w : Window) (hw : WinB w) : Q_GrownOf a w = some (growF w (rl a) 0) := by
  unfold Q_GrownOf
  rw [RisesOf_eq a hB (by omega)]
  simp only [Option.bind_some]
  have hr := rl_len a
  rw [(grow_loop w hw (rl a) 0 (rl_by a hB) (by omega) (rl a).length 0 0 (by omega) (by omega) (by omega)).2]; rfl
theorem Gaps_eq (a : List Sample) (hB : ∀ x ∈ a, SampB x) (hl : (a.length : Int) ≤ 20) (w : Window) (hw : WinB w) (most : Int) : series_Gaps a w most = some (gapsE a w most) := by
  unfold series_Gaps gapsE
  rw [fault_eq]
  simp only [Option.bind_some]
  split
  · rfl
  · rw [Out_eq]
    by_cases h : most < 1 ∨ 345686400000 < most
    · rw [if_pos (by simpa using h), if_pos h]
    · rw [if_neg (by simpa using h), if_neg h, gaps_loop a hB w hw most (by omega) a.length [] w.From 0 (by omega) (by omega) (by simp) (by have := hw.1; omega)]
      rfl
theorem faultS_or (a : List Sample) (w : Window) : faultS a w = orL [chkS a, winF w] := by
  unfold faultS
  by_cases h : chkS a = 0
  · by_cases h2 : winF w = 0 <;> simp [orL, h, h2]
  · simp [orL, h]
theorem orL3 (x y z : Int) : orL [x, y, z] = if orL [x, y] ≠ 0 then orL [x, y] else z := by
  by_cases h1 : x = 0 <;> by_cases h2 : y = 0 <;> by_cases h3 : z = 0 <;> simp [orL, h1, h2, h3]
theorem orL2 (x y : Int) : orL [x, y] = if x ≠ 0 then x else y := by
  by_cases h1 : x = 0 <;> by_cases h2 : y = 0 <;> simp [orL, h1, h2]

theorem p_ite {α β : Type} (c : Prop) [Decidable c] (x y : α × β) : (if c then x else y).1 = if c then x.1 else y.1 := by split <;> rfl
def eR (a : List Sample) : Int := orL [chkS a, if negB a = true then 1 else 0]
def eG (a : List Sample) (w : Window) : Int := orL [chkS a, winF w, if negB a = true then 1 else 0]
def eP (a : List Sample) (w : Window) (most : Int) : Int := orL [chkS a, winF w, if most < 1 ∨ 345686400000 < most then 1 else 0]
theorem e1 (a : List Sample) : (risesE a).2 = eR a := by
  unfold risesE eR; rw [orL2]; split
  · rfl
  · split <;> rfl
theorem e2 (a : List Sample) (w : Window) : (grownE a w).2 = eG a w := by
  unfold grownE eG; rw [orL3, ← faultS_or]; split
  · rfl
  · split <;> rfl
theorem e3 (a : List Sample) (w : Window) (most : Int) : (gapsE a w most).2 = eP a w most := by
  unfold gapsE eP; rw [orL3, ← faultS_or]; split
  · rfl
  · split <;> rfl
theorem f1 (a : List Sample) : (if eR a = 0 then rl a else []) = (risesE a).1 := by
  rw [← e1]; unfold risesE
  by_cases h : chkS a ≠ 0
  · rw [if_pos h, if_neg h]
  · rw [if_neg h]
    by_cases h2 : negB a = true
    · rw [if_pos h2]; simp
    · rw [if_neg h2]; simp
theorem f2 (a : List Sample) (w : Window) : (if eG a w = 0 then growF w (rl a) 0 else 0) = (grownE a w).1 := by
  rw [← e2]; unfold grownE
  by_cases h : faultS a w ≠ 0
  · rw [if_pos h, if_neg h]
  · rw [if_neg h]
    by_cases h2 : negB a = true
    · rw [if_pos h2]; simp
    · rw [if_neg h2]; simp
theorem f3 (a : List Sample) (w : Window) (most : Int) : (if eP a w most = 0 then gp most w.From (pts w a ++ [w.To]) else []) = (gapsE a w most).1 := by
  rw [← e3]; unfold gapsE
  by_cases h : faultS a w ≠ 0
  · rw [if_pos h, if_neg h]
  · rw [if_neg h]
    by_cases h2 : most < 1 ∨ 345686400000 < most
    · rw [if_pos h2]; simp
    · rw [if_neg h2]; simp
theorem law_tail (a : List Sample) (hB : ∀ x ∈ a, SampB x) (hl : (a.length : Int) ≤ 20) (w : Window) (hw : WinB w) (most : Int) (s1 s2 s3 : Stm) :
    L_CountersRead_j1 (a, s1) (w, s2) (most, s3) (risesE a) (grownE a w) (gapsE a w most) (eR a) (eG a w) (eP a w most) = some true := by
  have hr := rl_len a
  have hp := pts_len w a
  have hg := gp_len most (pts w a ++ [w.To]) w.From
  simp only [List.length_append, List.length_cons, List.length_nil] at hg
  have l1 : ((risesE a).1.length : Int) ≤ 100000 := by
    rw [← f1]; split
    · omega
    · simp
  have l3 : ((gapsE a w most).1.length : Int) ≤ 100000 := by
    rw [← f3]; split
    · omega
    · simp
  have fin : L_CountersRead_j4 (risesE a) (grownE a w) (gapsE a w most) (eR a) (eG a w) (eP a w most) (risesE a).1 (grownE a w).1 (gapsE a w most).1 = some true := by
    rw [← e1, ← e2, ← e3]
    exact j4_ok _ _ _ _ _ _ l1 l3
  have c3 : ∀ rs n, L_CountersRead_j3 (a, s1) (w, s2) (most, s3) (risesE a) (grownE a w) (gapsE a w most) (eR a) (eG a w) (eP a w most) rs n = L_CountersRead_j4 (risesE a) (grownE a w) (gapsE a w most) (eR a) (eG a w) (eP a w most) rs n (gapsE a w most).1 := by
    intro rs n
    unfold L_CountersRead_j3
    have h3 := f3 a w most
    by_cases hz : eP a w most = 0
    · rw [if_pos hz] at h3 ⊢
      rw [GapsOf_eq a hB w hw most (by omega), ← h3]; rfl
    · rw [if_neg hz] at h3 ⊢
      rw [← h3]
  have c2 : ∀ rs, L_CountersRead_j2 (a, s1) (w, s2) (most, s3) (risesE a) (grownE a w) (gapsE a w most) (eR a) (eG a w) (eP a w most) rs = L_CountersRead_j4 (risesE a) (grownE a w) (gapsE a w most) (eR a) (eG a w) (eP a w most) rs (grownE a w).1 (gapsE a w most).1 := by
    intro rs
    unfold L_CountersRead_j2
    have h2 := f2 a w
    by_cases hz : eG a w = 0
    · rw [if_pos hz] at h2 ⊢
      rw [GrownOf_eq a hB hl w hw, ← h2]; exact c3 _ _
    · rw [if_neg hz] at h2 ⊢
      rw [← h2]; exact c3 _ _
  unfold L_CountersRead_j1
  have h1 := f1 a
  rw [← fin]
  by_cases hz : eR a = 0
  · rw [if_pos hz] at h1 ⊢
    rw [RisesOf_eq a hB (by omega), ← h1]; exact c2 _
  · rw [if_neg hz] at h1 ⊢
    rw [← h1]; exact c2 _

theorem CountersRead_plain (l : List Int) : L_CountersRead l = some true := by
  unfold L_CountersRead
  refine Gen.use (Series_ok (k := 20) ⟨by simp, by simp⟩ (by omega) (by omega)) (fun a s1 ha hs1 => ?_)
  refine Gen.use (Frame_ok (k := 9) (hs1.less (by omega)) (by omega)) (fun w s2 hw hs2 => ?_)
  refine Gen.use (Pick_ok (k := 8) (hs2.less (by omega)) (by simp) (by simp) (by omega)) (fun most s3 hmost hs3 => ?_)
  have hl : (a.length : Int) ≤ 20 := by have := ha.1; omega
  have hE2 : ∀ x y : Int, L_errs [x, y] = some (orL [x, y]) := fun x y => gOr_eq _ (by simp)
  have hE3 : ∀ x y z : Int, L_errs [x, y, z] = some (orL [x, y, z]) := fun x y z => gOr_eq _ (by simp)
  simp only [Rises_eq a ha.2 hl, Grown_eq a ha.2 hl w hw, Gaps_eq a ha.2 hl w hw, SeriesFault_eq a ha.2, CounterFault_eq a (by omega), WindowFault_eq, hE2, hE3, Option.bind_some]
  have ht := law_tail a ha.2 hl w hw most s1 s2 s3
  unfold eR eG eP at ht
  by_cases c : most < 1
  · rw [if_pos c]
    rw [if_pos (Or.inl c)] at ht
    exact ht
  · rw [if_neg c]
    by_cases c2 : 345686400000 < most
    · rw [if_pos (Or.inr c2)] at ht
      simpa only [L_when, c2, decide_true, if_true] using ht
    · rw [if_neg (show ¬ (most < 1 ∨ 345686400000 < most) by omega)] at ht
      simp only [L_when, c2, decide_false, Bool.false_eq_true, if_false]
      exact ht
end Go.Beacon
