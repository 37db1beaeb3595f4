/- Unpacking, and the law SeriesPacked. No program in sight. -/
import Derived.Test.YtbcbhhbbejcnnaaPckPpck
set_option linter.unusedVariables false
set_option linter.unusedSimpArgs false
namespace Go.Beacon
open Go Go.Eng

theorem Out_or (n lo hi : Int) : base_Out n lo hi = decide (n < lo ∨ hi < n) := by rw [Out_eq]; simp
/-- A right series of a device and a metric, whose bytes are these. -/
structure Fit (b : List Int) (d m : Str) (xs : List Sample) : Prop where
  chk : chkS xs = 0
  pack : packL xs = b
  name : ∀ s ∈ xs, s.Device = d ∧ s.Metric = m
theorem good_B {xs : List Sample} (h : Good xs) : ∀ x ∈ xs, SampB x := fun x hx => by
  have := h.at_ x hx; have := h.val x hx
  exact ⟨by omega, by omega⟩
theorem k7_eq (b : List Int) (d m : Str) (xs : List Sample) (hn : ∀ s ∈ xs, s.Device = d ∧ s.Metric = m) : ∃ r, series_Unpack_k7 b xs = some r ∧ (r = ([], 9) ∨ (r = (xs, 0) ∧ Fit b d m xs)) := by
  unfold series_Unpack_k7 series_Unpack_j6
  rw [CheckSeries_eq]
  simp only [Option.bind_some]
  by_cases h : chkS xs = 0
  · rw [if_neg (by simpa using h)]
    have g := chkS_good h
    have hp := packL_len xs
    have hl := g.len
    rw [(pack_eq xs (good_B g) g.len).1]
    simp only [Option.bind_some]
    have q : slices_Equal_byte_byte (packL xs) b = some (decide (packL xs = b)) := gEqual_eq _ _ (by omega)
    rw [q]
    simp only [Option.bind_some]
    by_cases e : packL xs = b
    · rw [decide_eq_true e]; exact ⟨_, rfl, .inr ⟨rfl, h, e, hn⟩⟩
    · rw [decide_eq_false e]; exact ⟨_, rfl, .inl rfl⟩
  · rw [if_pos h]; exact ⟨_, rfl, .inl rfl⟩
theorem j1_eq (b : List Int) (d m : Str) (ok : Bool) (xs : List Sample) (hn : ∀ s ∈ xs, s.Device = d ∧ s.Metric = m) (hB : ok = true → ∀ x ∈ xs, SampB x) : ∃ r, Q_UnpackOf_j1 b ok xs = some r ∧ (r = ([], 9) ∨ (r = (xs, 0) ∧ Fit b d m xs)) := by
  unfold Q_UnpackOf_j1 Q_UnpackOf_j5
  cases ok with
  | false => exact ⟨_, rfl, .inl rfl⟩
  | true =>
    rw [if_neg (by simp), SeriesFault_eq xs (hB rfl)]
    simp only [Option.bind_some]
    by_cases h : chkS xs = 0
    · rw [if_neg (by simpa using h)]
      have g := chkS_good h
      have hp := packL_len xs
      have hl := g.len
      rw [(pack_eq xs (good_B g) g.len).2]
      simp only [Option.bind_some]
      have q : slices_Equal_byte_byte (packL xs) b = some (decide (packL xs = b)) := gEqual_eq _ _ (by omega)
      rw [q]
      simp only [Option.bind_some]
      by_cases e : packL xs = b
      · rw [decide_eq_true e]; exact ⟨_, rfl, .inr ⟨rfl, h, e, hn⟩⟩
      · rw [decide_eq_false e]; exact ⟨_, rfl, .inl rfl⟩
    · rw [if_pos h]; exact ⟨_, rfl, .inl rfl⟩
theorem snoc_name {d m : Str} {l : List Sample} {a v : Int} (h : ∀ s ∈ l, s.Device = d ∧ s.Metric = m) : ∀ s ∈ l ++ [(⟨d, m, a, v⟩ : Sample)], s.Device = d ∧ s.Metric = m := by
  intro s hs
  rcases List.mem_append.1 hs with h1 | h1
  · exact h s h1
  · simp only [List.mem_singleton] at h1; rw [h1]; exact ⟨rfl, rfl⟩

/-- What the program hands out fits. -/
noncomputable def unp (b : List Int) (d m : Str) : Option (List Sample × Int) := (series_unseven b).bind fun v4 => series_Unpack_j2 b d m v4 ((!v4.2.2) || (decide ((5000 : Int) < v4.1)))
theorem unp_sound (b : List Int) (d m : Str) : ∃ r, unp b d m = some r ∧ (r = ([], 9) ∨ (r.2 = 0 ∧ Fit b d m r.1)) := by
  unfold unp
  obtain ⟨v4, h4, hpos⟩ := read_any b
  rw [h4]
  simp only [Option.bind_some]
  unfold series_Unpack_j2
  by_cases hc : ((!v4.2.2) || (decide ((5000 : Int) < v4.1))) = true
  · rw [if_pos hc]; exact ⟨_, rfl, .inl rfl⟩
  · rw [if_neg hc]
    have hm : v4.1 ≤ 5000 := by simp at hc; omega
    have wm : w64 v4.1 = v4.1 := by rw [w64_in] <;> omega
    unfold series_Unpack_l1
    refine iter_inv _ (fun s : List Int × List Sample × Int × Int × Int × Int => (v4.1 - s.2.2.2.2.2).toNat) (fun s : List Int × List Sample × Int × Int × Int × Int => 0 ≤ s.2.2.2.2.2 ∧ s.2.2.2.2.2 ≤ 5000 ∧ (s.2.1.length : Int) = s.2.2.2.2.2 ∧ ∀ x ∈ s.2.1, x.Device = d ∧ x.Metric = m) _ ?_ _ ⟨by simp, by simp, by simp, by simp⟩
    rintro ⟨rest, out, at_, by_, val, i⟩ ⟨h0, h1, h2, h3⟩
    simp only at h0 h1 h2 h3 ⊢
    unfold series_Unpack_b1
    rw [wm]
    by_cases hi : i < v4.1
    · rw [if_pos hi]
      have w1 : w64 (i + 1) = i + 1 := by rw [w64_in] <;> omega
      have key : ∀ (v21 : Int × List Int × Bool) (l22 : List Int) (c : Bool) (y : Int), (∃ s', series_Unpack_j3 d m out at_ by_ val i v21 l22 c y = some (.inl s') ∧ (0 ≤ s'.2.2.2.2.2 ∧ s'.2.2.2.2.2 ≤ 5000 ∧ (s'.2.1.length : Int) = s'.2.2.2.2.2 ∧ ∀ x ∈ s'.2.1, x.Device = d ∧ x.Metric = m) ∧ (v4.1 - s'.2.2.2.2.2).toNat < (v4.1 - i).toNat) ∨ (∃ a, series_Unpack_j3 d m out at_ by_ val i v21 l22 c y = some (.inr a) ∧ (a = ([], 9) ∨ (a.2 = 0 ∧ Fit b d m a.1))) := by
        intro v21 l22 c y
        unfold series_Unpack_j3 series_Unpack_j4 series_Unpack_j5
        cases c with
        | false => exact .inr ⟨_, rfl, .inl rfl⟩
        | true =>
          rw [if_neg (by simp)]
          split
          · exact .inr ⟨_, rfl, .inl rfl⟩
          · rw [app_le (by simp; omega), w1]
            simp only [Option.bind_some]
            left
            split
            · exact ⟨_, rfl, ⟨by simp only; omega, by simp only; omega, by simp; omega, snoc_name h3⟩, by simp only; omega⟩
            · exact ⟨_, rfl, ⟨by simp only; omega, by simp only; omega, by simp; omega, snoc_name h3⟩, by simp only; omega⟩
      obtain ⟨v21, e21, _⟩ := read_any rest
      rw [e21]
      simp only [Option.bind_some]
      split
      · obtain ⟨v25, e25, _⟩ := read_any v21.2.1
        rw [e25]
        simp only [Option.bind_some]
        exact key _ _ _ _
      · exact key _ _ _ _
    · rw [if_neg hi]
      right
      obtain ⟨r, hr, hq⟩ := k7_eq b d m out h3
      rw [hr]
      refine ⟨r, rfl, ?_⟩
      rcases hq with h | ⟨h, hf⟩
      · exact .inl h
      · rw [h]; exact .inr ⟨rfl, hf⟩
/-- What fits is handed out by the program. -/
theorem unp_loop (b : List Int) (d m : Str) (xs : List Sample) (v4 : Int × List Int × Bool) (hv : v4.1 = xs.length) (hl : (xs.length : Int) ≤ 5000) : ∀ (rem acc : List Sample) (a g v : Int), acc ++ rem = xs → (∀ s ∈ rem, (s.Device = d ∧ s.Metric = m) ∧ (0 ≤ s.At ∧ s.At ≤ 345686399999) ∧ (-1000000000 ≤ s.Value ∧ s.Value ≤ 1000000000)) →
    (0 ≤ a ∧ a ≤ 345686399999) → (-345686399999 ≤ g ∧ g ≤ 345686399999) → (-1000000000 ≤ v ∧ v ≤ 1000000000) → (acc.length = 0 → g = 0) → series_Unpack_l1 b d m v4 (pk rem a g v (decide ((acc.length : Int) = 0))) acc a g v acc.length = series_Unpack_k7 b xs := by
  intro rem
  have wm : w64 v4.1 = xs.length := by rw [hv, w64_in] <;> omega
  induction rem with
  | nil =>
    intro acc a g v hx hs ha hg hv' h0
    simp only [List.append_nil] at hx
    subst hx
    unfold series_Unpack_l1
    rw [iter_eq, series_Unpack_b1, if_neg (by simp only [wm]; omega), map_inr_after]
  | cons s r ih =>
    intro acc a g v hx hs ha hg hv' h0
    obtain ⟨⟨n1, n2⟩, b1, b2⟩ := hs s (by simp)
    have hlen : acc.length + (r.length + 1) = xs.length := by rw [← hx]; simp
    have d1 := dbl_bd (z := s.At - a - g) (by omega)
    have d2 := dbl_bd (z := s.Value - v) (by omega)
    have w1 : w64 ((acc.length : Int) + 1) = acc.length + 1 := by rw [w64_in] <;> omega
    have e0 : (⟨d, m, s.At, s.Value⟩ : Sample) = s := by rw [← n1, ← n2]
    have e1 : w64 (g + series_halved (dbl (s.At - a - g))) = s.At - a := by rw [halved_eq (by omega), w64_in] <;> omega
    have e2 : w64 (a + (s.At - a)) = s.At := by rw [w64_in] <;> omega
    have e3 : w64 (v + series_halved (dbl (s.Value - v))) = s.Value := by rw [halved_eq (by omega), w64_in] <;> omega
    have ih' := fun g' hg' h0' => ih (acc ++ [s]) s.At g' s.Value (by rw [← hx]; simp) (fun q hq => hs q (by simp [hq])) b1 hg' b2 h0'
    have hf : decide (((acc ++ [s]).length : Int) = 0) = false := by simp; omega
    rw [hf] at ih'
    unfold series_Unpack_l1 at ih' ⊢
    rw [iter_eq, series_Unpack_b1, if_pos (by simp only [wm]; omega)]
    simp only [pk]
    rw [(read_sv _ d1.1 d1.2).1]
    simp only [Option.bind_some, if_true]
    rw [(read_sv _ d2.1 d2.2).1]
    simp only [Option.bind_some]
    unfold series_Unpack_j3 series_Unpack_j4 series_Unpack_j5
    simp only [e1, e2, e3, e0, w1]
    rw [if_neg (by simp), if_neg (by rw [Out_or, Moment_eq]; simp; omega)]
    rw [app_le (by simp; omega)]
    simp only [Option.bind_some]
    have el : ((acc ++ [s]).length : Int) = acc.length + 1 := by simp
    by_cases hz : acc.length = 0
    · rw [if_neg (by omega), decide_eq_true (by omega), if_pos rfl, Option.bind_some, after_inl, ← el]
      have hg0 := h0 hz
      rw [hg0]
      exact ih' 0 (by omega) (by simp)
    · rw [if_pos (by omega), decide_eq_false (by omega), if_neg (by simp), Option.bind_some, after_inl, ← el]
      exact ih' (s.At - a) (by omega) (by simp)
theorem unp_complete {b : List Int} {d m : Str} {xs : List Sample} (h : Fit b d m xs) : unp b d m = some (xs, 0) := by
  have g := chkS_good h.chk
  have hl := g.len
  have hp := packL_len xs
  unfold unp
  have hb : series_unseven b = some ((xs.length : Int), pk xs 0 0 0 true, true) := by
    rw [← h.pack]; exact (read_sv _ (by omega) (by omega)).1
  rw [hb]
  simp only [Option.bind_some]
  unfold series_Unpack_j2
  rw [if_neg (by simp; omega)]
  have hloop := unp_loop b d m xs ((xs.length : Int), pk xs 0 0 0 true, true) rfl hl xs [] 0 0 0 rfl (fun s hs => ⟨h.name s hs, g.at_ s hs, g.val s hs⟩) (by omega) (by omega) (by omega) (fun _ => rfl)
  simp only [List.length_nil] at hloop
  have : (decide (((0 : Nat) : Int) = 0)) = true := rfl
  rw [this] at hloop
  refine Eq.trans hloop ?_
  unfold series_Unpack_k7 series_Unpack_j6
  rw [CheckSeries_eq, h.chk]
  simp only [Option.bind_some]
  rw [if_neg (by simp), (pack_eq xs (good_B g) g.len).1]
  simp only [Option.bind_some]
  have q : slices_Equal_byte_byte (packL xs) b = some (decide (packL xs = b)) := gEqual_eq _ _ (by omega)
  rw [q, decide_eq_true h.pack]; rfl

/-- What the reference hands out fits. -/
theorem ref_sound (b : List Int) (d m : Str) : ∃ r, Q_UnpackOf b d m = some r ∧ (r = ([], 9) ∨ (r.2 = 0 ∧ Fit b d m r.1)) := by
  unfold Q_UnpackOf
  obtain ⟨v1, h1⟩ := take_any b
  rw [h1]
  simp only [Option.bind_some]
  unfold Q_UnpackOf_l1
  refine iter_inv _ (fun s : List Int × Bool × List Sample × Int × Int × Int × Int => (5001 - s.2.2.2.2.2.2).toNat) (fun s : List Int × Bool × List Sample × Int × Int × Int × Int => 0 ≤ s.2.2.2.2.2.2 ∧ s.2.2.2.2.2.2 ≤ 5001 ∧ (s.2.2.1.length : Int) = s.2.2.2.2.2.2 ∧ (∀ x ∈ s.2.2.1, x.Device = d ∧ x.Metric = m) ∧ (s.2.1 = true → ∀ x ∈ s.2.2.1, SampB x)) _ ?_ _ ⟨by simp, by simp, by simp, by simp, by simp⟩
  rintro ⟨rest, ok, out, at_, g, val, i⟩ ⟨h0, h1, h2, h3, h4⟩
  simp only at h0 h1 h2 h3 h4 ⊢
  have fin : ∀ c, (c = true → ∀ x ∈ out, SampB x) → ∃ a, Option.map (Sum.inr (α := List Int × Bool × List Sample × Int × Int × Int × Int)) (Q_UnpackOf_j1 b c out) = some (.inr a) ∧ (a = ([], 9) ∨ (a.2 = 0 ∧ Fit b d m a.1)) := by
    intro c hc
    obtain ⟨r, hr, hq⟩ := j1_eq b d m c out h3 hc
    rw [hr]
    refine ⟨r, rfl, ?_⟩
    rcases hq with h | ⟨h, hf⟩
    · exact .inl h
    · rw [h]; exact .inr ⟨rfl, hf⟩
  unfold Q_UnpackOf_b1 Q_UnpackOf_j2
  by_cases hc : (ok && ((decide (i < v1.1)) && (decide (i ≤ (5000 : Int))))) = true
  · rw [if_pos hc]
    have hok : ok = true := by simp at hc; exact hc.1
    have hi : i ≤ 5000 := by simp at hc; omega
    have hB := h4 hok
    have w1 : w64 (i + 1) = i + 1 := by rw [w64_in] <;> omega
    obtain ⟨v23, e23⟩ := take_any rest
    rw [e23]
    simp only [Option.bind_some]
    split
    · rename_i hn; right; exact fin _ (fun h => by simp [h] at hn)
    · obtain ⟨v24, e24⟩ := take_any v23.2.1
      rw [e24]
      simp only [Option.bind_some]
      split
      · rename_i hn; right; exact fin _ (fun h => by simp [h] at hn)
      · left
        unfold Q_UnpackOf_j3 Q_UnpackOf_j4
        rw [app_le (by simp; omega), w1]
        simp only [Option.bind_some]
        have hnew : ∀ a v : Int, (Q_Moment a && Q_in v (-1000000000) 1000000000) = true → ∀ x ∈ out ++ [(⟨d, m, a, v⟩ : Sample)], SampB x := by
          intro a v hq x hx
          rcases List.mem_append.1 hx with h | h
          · exact hB x h
          · simp only [List.mem_singleton] at h
            rw [QMoment_eq, Qin_eq] at hq
            simp at hq
            rw [h]
            exact ⟨by simp only; omega, by simp only; omega⟩
        split
        · exact ⟨_, rfl, ⟨by simp only; omega, by simp only; omega, by simp; omega, snoc_name h3, hnew _ _⟩, by simp only; omega⟩
        · exact ⟨_, rfl, ⟨by simp only; omega, by simp only; omega, by simp; omega, snoc_name h3, hnew _ _⟩, by simp only; omega⟩
  · rw [if_neg hc]; right; exact fin _ h4
/-- What fits is handed out by the reference. -/
theorem ref_loop (b : List Int) (d m : Str) (xs : List Sample) (v1 : Int × List Int × Bool) (hv : v1.1 = xs.length) (hl : (xs.length : Int) ≤ 5000) : ∀ (rem acc : List Sample) (a g v : Int), acc ++ rem = xs → (∀ s ∈ rem, (s.Device = d ∧ s.Metric = m) ∧ (0 ≤ s.At ∧ s.At ≤ 345686399999) ∧ (-1000000000 ≤ s.Value ∧ s.Value ≤ 1000000000)) →
    (0 ≤ a ∧ a ≤ 345686399999) → (-345686399999 ≤ g ∧ g ≤ 345686399999) → (-1000000000 ≤ v ∧ v ≤ 1000000000) → (acc.length = 0 → g = 0) → Q_UnpackOf_l1 b d m v1 (pk rem a g v (decide ((acc.length : Int) = 0))) true acc a g v acc.length = Q_UnpackOf_j1 b true xs := by
  intro rem
  induction rem with
  | nil =>
    intro acc a g v hx hs ha hg hv' h0
    simp only [List.append_nil] at hx
    subst hx
    unfold Q_UnpackOf_l1
    rw [iter_eq, Q_UnpackOf_b1, Q_UnpackOf_j2, if_neg (by rw [hv]; simp), map_inr_after]
  | cons s r ih =>
    intro acc a g v hx hs ha hg hv' h0
    obtain ⟨⟨n1, n2⟩, b1, b2⟩ := hs s (by simp)
    have hlen : acc.length + (r.length + 1) = xs.length := by rw [← hx]; simp
    have d1 := dbl_bd (z := s.At - a - g) (by omega)
    have d2 := dbl_bd (z := s.Value - v) (by omega)
    have w1 : w64 ((acc.length : Int) + 1) = acc.length + 1 := by rw [w64_in] <;> omega
    have e0 : (⟨d, m, s.At, s.Value⟩ : Sample) = s := by rw [← n1, ← n2]
    have e1 : w64 (Q_back (dbl (s.At - a - g)) + g) = s.At - a := by rw [back_eq (by omega), w64_in] <;> omega
    have e2 : w64 (a + (s.At - a)) = s.At := by rw [w64_in] <;> omega
    have e3 : w64 (v + Q_back (dbl (s.Value - v))) = s.Value := by rw [back_eq (by omega), w64_in] <;> omega
    have ih' := fun g' hg' h0' => ih (acc ++ [s]) s.At g' s.Value (by rw [← hx]; simp) (fun q hq => hs q (by simp [hq])) b1 hg' b2 h0'
    have hf : decide (((acc ++ [s]).length : Int) = 0) = false := by simp; omega
    rw [hf] at ih'
    unfold Q_UnpackOf_l1 at ih' ⊢
    rw [iter_eq, Q_UnpackOf_b1, Q_UnpackOf_j2, if_pos (by rw [hv]; simp; omega)]
    simp only [pk]
    rw [(read_sv _ d1.1 d1.2).2]
    simp only [Option.bind_some]
    rw [if_neg (by simp), (read_sv _ d2.1 d2.2).2]
    simp only [Option.bind_some]
    rw [if_neg (by simp)]
    unfold Q_UnpackOf_j3 Q_UnpackOf_j4
    simp only [e1, e2, e3, e0, w1]
    rw [app_le (by simp; omega)]
    simp only [Option.bind_some]
    have hok : (Q_Moment s.At && Q_in s.Value (-1000000000) 1000000000) = true := by rw [QMoment_eq, Qin_eq]; simp; omega
    rw [hok]
    have el : ((acc ++ [s]).length : Int) = acc.length + 1 := by simp
    by_cases hz : acc.length = 0
    · rw [if_pos (by omega), decide_eq_true (by omega), if_pos rfl, Option.bind_some, after_inl, ← el]
      exact ih' 0 (by omega) (by simp)
    · rw [if_neg (by omega), decide_eq_false (by omega), if_neg (by simp), Option.bind_some, after_inl, ← el]
      exact ih' (s.At - a) (by omega) (by simp)
theorem ref_complete {b : List Int} {d m : Str} {xs : List Sample} (h : Fit b d m xs) : Q_UnpackOf b d m = some (xs, 0) := by
  have g := chkS_good h.chk
  have hl := g.len
  have hp := packL_len xs
  unfold Q_UnpackOf
  have hb : Q_takeSeven b = some ((xs.length : Int), pk xs 0 0 0 true, true) := by
    rw [← h.pack]; exact (read_sv _ (by omega) (by omega)).2
  rw [hb]
  simp only [Option.bind_some]
  have hloop := ref_loop b d m xs ((xs.length : Int), pk xs 0 0 0 true, true) rfl hl xs [] 0 0 0 rfl (fun s hs => ⟨h.name s hs, g.at_ s hs, g.val s hs⟩) (by omega) (by omega) (by omega) (fun _ => rfl)
  simp only [List.length_nil] at hloop
  have : (decide (((0 : Nat) : Int) = 0)) = true := rfl
  rw [this] at hloop
  refine Eq.trans hloop ?_
  unfold Q_UnpackOf_j1 Q_UnpackOf_j5
  rw [if_neg (by simp), SeriesFault_eq xs (good_B g), h.chk]
  simp only [Option.bind_some]
  rw [if_neg (by simp), (pack_eq xs (good_B g) g.len).2]
  simp only [Option.bind_some]
  have q : slices_Equal_byte_byte (packL xs) b = some (decide (packL xs = b)) := gEqual_eq _ _ (by omega)
  rw [q, decide_eq_true h.pack]; rfl
theorem unp_same (b : List Int) (d m : Str) : ∃ r, unp b d m = some r ∧ Q_UnpackOf b d m = some r ∧ (r.1.length : Int) ≤ 5000 := by
  obtain ⟨r, h1, h2⟩ := unp_sound b d m
  obtain ⟨q, g1, g2⟩ := ref_sound b d m
  rcases h2 with h2 | ⟨h2, hf⟩
  · rcases g2 with g2 | ⟨g2, gf⟩
    · exact ⟨r, h1, by rw [g1, g2, h2], by rw [h2]; simp⟩
    · have := unp_complete gf
      rw [h1, h2] at this
      simp at this
  · have := ref_complete hf
    refine ⟨r, h1, ?_, (chkS_good hf.chk).len⟩
    rw [this, ← h2]

/-! the bytes that are drawn -/
theorem set_len {l : List Int} {i : Nat} {x : Int} : (l.set i x).length = l.length := List.length_set
theorem Bytes_loop (v3 : Int × Stm) (hv : v3.1 ≤ 2) : ∀ (n : Nat) (l9 : List Int) (n10 : Int) (l12 : List Int) (n13 k : Int), (0 ≤ n13 ∧ n13 ≤ 2) → n13 + n = max v3.1 n13 → SOk ⟨l9, n10⟩ (k + 3 * n) → 0 ≤ k → (l12.length : Int) ≤ 900 + n13 → Gen (Stream_Bytes_l1 v3 l9 n10 l12 n13) k (fun b => (b.length : Int) ≤ 1000) := by
  intro n
  induction n with
  | zero =>
    intro l9 n10 l12 n13 k h0 h1 hs hk hl
    unfold Stream_Bytes_l1
    rw [iter_eq, Stream_Bytes_b1, if_neg (by simp only; omega), map_inr_after]
    exact Gen.ret (by simp only; omega) (hs.less (by omega))
  | succ n ih =>
    intro l9 n10 l12 n13 k h0 h1 hs hk hl
    have w1 : w64 (n13 + 1) = n13 + 1 := by rw [w64_in] <;> omega
    unfold Stream_Bytes_l1 at ih ⊢
    rw [iter_eq, Stream_Bytes_b1, if_pos (by simp only; omega)]
    simp only
    by_cases hz : (l12.length : Int) = 0
    · rw [if_pos hz]
      obtain ⟨u, s1, e1, p1, q1⟩ := Next_ok (s := ⟨l9, n10⟩) (n := 256) (k := k) (hs.less (by omega)) (by omega) (by omega) hk
      simp only [e1, Option.bind_some]
      rw [app_le (by simp; omega)]
      simp only [Option.bind_some]
      rw [map_inr_after]
      exact Gen.ret (by simp; omega) q1
    · rw [if_neg hz]
      obtain ⟨i, s1, e1, p1, q1⟩ := Next_ok (s := ⟨l9, n10⟩) (n := l12.length) (k := k + 3 * n + 2) (hs.less (by omega)) (by omega) (by omega) (by omega)
      simp only [e1, Option.bind_some]
      obtain ⟨c, s2, e2, p2, q2⟩ := Next_ok (s := s1) (n := 4) (k := k + 3 * n + 1) (q1.less (by omega)) (by omega) (by omega) (by omega)
      simp only [e2, Option.bind_some]
      have wi : w64 (i + 1) = i + 1 := by rw [w64_in] <;> omega
      unfold Stream_Bytes_j1 Stream_Bytes_j2 Stream_Bytes_j3
      unfold Stream_Bytes_j2
      unfold Stream_Bytes_j1
      rw [w1, wi]
      split
      · rw [slc_in (by omega) (by omega) (by omega)]
        simp only [Option.bind_some]
        rw [slc_in (by omega) (by omega) (by omega)]
        simp only [Option.bind_some]
        rw [app_le (by simp; omega)]
        simp only [Option.bind_some, after_inl]
        exact ih _ _ _ (n13 + 1) k (by omega) (by omega) (q2.less (by omega)) hk (by simp; omega)
      · split
        · rw [slc_in (by omega) (by omega) (by omega)]
          simp only [Option.bind_some]
          rw [slc_in (by omega) (by omega) (by omega)]
          simp only [Option.bind_some]
          rw [app_le (by simp; omega)]
          simp only [Option.bind_some, after_inl]
          exact ih _ _ _ (n13 + 1) k (by omega) (by omega) (q2.less (by omega)) hk (by simp; omega)
        · split
          · rw [slc_in (by omega) (by omega) (by omega)]
            simp only [Option.bind_some, after_inl]
            exact ih _ _ _ (n13 + 1) k (by omega) (by omega) (q2.less (by omega)) hk (by simp; omega)
          · obtain ⟨y, hy, _, _⟩ := idx_lt l12 p1.1 p1.2
            obtain ⟨e, s3, e3, p3, q3⟩ := Next_ok (s := s2) (n := 8) (k := k + 3 * n) (q2.less (by omega)) (by omega) (by omega) (by omega)
            simp only [hy, e3, Option.bind_some]
            unfold shlO
            rw [if_neg (by omega)]
            simp only [Option.bind_some, after_inl]
            exact ih _ _ _ (n13 + 1) k (by omega) (by omega) q3 hk (by rw [set_len]; omega)
theorem Bytes_ok {s : Stm} {b : List Int} {k : Int} (hs : SOk s (k + 7)) (hk : 0 ≤ k) (hl : (b.length : Int) ≤ 900) : Gen (Stream_Bytes s b) k (fun b => (b.length : Int) ≤ 1000) := by
  unfold Stream_Bytes
  rw [app_le (by simp; omega)]
  simp only [Option.bind_some, List.nil_append]
  refine Gen.bind (Range_ok (k := k + 6) (hs.less (by omega)) (by omega) (by omega) (by omega) (by omega)) (fun v s' hv hs' => ?_)
  exact Bytes_loop (v, s') (by simp only; omega) v.toNat s'.L s'.at_ b 0 k (by omega) (by simp only; omega) (hs'.less (by omega)) hk (by omega)
theorem Packed_j1_ok {l6 : List Int} {n7 : Int} {b : List Int} {k : Int} (hs : SOk ⟨l6, n7⟩ (k + 2)) (hk : 0 ≤ k) (hl : (b.length : Int) ≤ 1000) : Gen (Stream_Packed_j1 l6 n7 b) k (fun b => (b.length : Int) ≤ 1000) := by
  unfold Stream_Packed_j1 Stream_Packed_j2
  refine Gen.bind (Flip_ok (k := k + 1) (hs.less (by omega)) (by omega) (by omega) (by omega)) (fun v s' hv hs' => ?_)
  simp only
  split
  · refine Gen.bind (Next_ok (k := k) (hs'.less (by omega)) (by omega) (by omega) (by omega)) (fun i s2 hi hs2 => ?_)
    obtain ⟨y, hy, hm, _⟩ := idx_lt [[], [(0 : Int)], [(0 : Int), (0 : Int)], [(128 : Int), (0 : Int)], [(1 : Int), (128 : Int), (0 : Int), (0 : Int)], [(255 : Int), (255 : Int), (255 : Int), (255 : Int), (255 : Int), (255 : Int), (255 : Int), (255 : Int), (255 : Int), (1 : Int)]] hi.1 (by simp; omega)
    simp only [hy, Option.bind_some]
    refine Gen.ret ?_ hs2
    simp only [List.mem_cons, List.not_mem_nil, or_false] at hm
    rcases hm with rfl | rfl | rfl | rfl | rfl | rfl <;> simp
  · exact Gen.ret hl (hs'.less (by omega))
theorem Packed_ok {s : Stm} {k : Int} (hs : SOk s (k + 51)) (hk : 0 ≤ k) : Gen (Stream_Packed s) k (fun b => (b.length : Int) ≤ 1000) := by
  unfold Stream_Packed
  refine Gen.bind (RightSeries_ok (k := k + 10) (hs.less (by omega)) (by omega) (by omega) (by omega)) (fun xs s1 hx hs1 => ?_)
  have hp := packL_len xs
  have hxl := hx.1
  simp only [(pack_eq xs hx.2 (by omega)).2, Option.bind_some]
  refine Gen.bind (Flip_ok (k := k + 9) (hs1.less (by omega)) (by omega) (by omega) (by omega)) (fun v s2 hv hs2 => ?_)
  simp only
  split
  · refine Gen.bind (Bytes_ok (k := k + 2) (hs2.less (by omega)) (by omega) (by omega)) (fun b s3 hb hs3 => ?_)
    exact Packed_j1_ok hs3 hk hb
  · exact Packed_j1_ok (hs2.less (by omega)) hk (by omega)

/-! the law -/
theorem fin_ok (t : List Int × Int) (u : List Sample × Int) (h1 : (t.1.length : Int) ≤ 1000000) (h2 : (u.1.length : Int) ≤ 6000) : L_SeriesPacked_j4 t u t.2 t.1 u.2 u.1 = some true := by
  unfold L_SeriesPacked_j4 L_SeriesPacked_j5
  have q1 : slices_Equal_byte_byte t.1 t.1 = some (decide (t.1 = t.1)) := gEqual_eq t.1 t.1 (by omega)
  have q2 : slices_Equal_Sample_Sample u.1 u.1 = some (decide (u.1 = u.1)) := gEqual_eq u.1 u.1 (by omega)
  simp only [q1, q2, if_true, Option.bind_some, decide_true, measured_eq]
theorem law_tail (a : List Sample) (hB : ∀ x ∈ a, SampB x) (hl : (a.length : Int) ≤ 20) (b : List Int) (d m : Str) (s1 s2 s3 : Stm) : L_SeriesPacked_j1 (a, s1) (d, s2) (m, s3) b = some true := by
  obtain ⟨r, r1, r2, r3⟩ := unp_same b d m
  have hpl := packL_len a
  obtain ⟨t, ht, htl, htq⟩ : ∃ t : List Int × Int, series_Pack a = some t ∧ (t.1.length : Int) ≤ 1000000 ∧ t.2 = chkS a ∧ (if chkS a = 0 then Q_PackOf a = some t.1 else t.1 = []) := by
    unfold series_Pack
    rw [CheckSeries_eq]
    simp only [Option.bind_some]
    by_cases h : chkS a = 0
    · rw [if_neg (by simpa using h), (pack_eq a hB (by omega)).1]
      exact ⟨_, rfl, by simp only; omega, h.symm, by rw [if_pos h, (pack_eq a hB (by omega)).2]⟩
    · rw [if_pos h]
      exact ⟨_, rfl, by simp, rfl, by rw [if_neg h]⟩
  obtain ⟨htq2, htq⟩ := htq
  have hE2 : ∀ x y : Int, L_errs [x, y] = some (orL [x, y]) := fun x y => gOr_eq _ (by simp)
  have hk : ∀ e : Int, ∀ u : List Sample × Int, (u.1.length : Int) ≤ 6000 → (if e = 0 then Q_UnpackOf b d m = some u else u = ([], e)) → L_SeriesPacked_j2 (a, s1) (d, s2) (m, s3) b t u (chkS a) e = some true := by
    intro e u hu hq
    have j3 : ∀ ps : List Int, L_SeriesPacked_j3 (d, s2) (m, s3) b t u (chkS a) e ps = L_SeriesPacked_j4 t u (chkS a) ps u.2 u.1 := by
      intro ps
      unfold L_SeriesPacked_j3
      by_cases h : e = 0
      · rw [if_pos h] at hq ⊢
        rw [hq]; rfl
      · rw [if_neg h] at hq ⊢
        rw [hq]
    unfold L_SeriesPacked_j2
    by_cases h : chkS a = 0
    · rw [if_pos h] at htq ⊢
      rw [htq]
      simp only [Option.bind_some]
      rw [j3, ← htq2]
      exact fin_ok t u htl hu
    · rw [if_neg h] at htq ⊢
      rw [← htq, j3, ← htq2]
      exact fin_ok t u htl hu
  unfold L_SeriesPacked_j1
  simp only [ht, Option.bind_some, SeriesFault_eq a hB, QKey_eq, hE2]
  have hun : series_Unpack b d m = some (if keyB d = true ∧ keyB m = true then (if (100000 : Int) < b.length then ([], 2) else r) else ([], 5)) := by
    unfold series_Unpack series_Unpack_j1
    simp only [Key_eq, Option.bind_some]
    cases keyB d with
    | false => rfl
    | true =>
      cases keyB m with
      | false => rfl
      | true =>
        simp only [Bool.not_true, Bool.false_eq_true, if_false, and_self, if_true]
        split
        · rfl
        · exact r1
  rw [hun]
  simp only [Option.bind_some]
  cases hd : keyB d with
  | false =>
    simp only [Bool.not_false, if_true, Bool.false_eq_true, false_and, if_false]
    refine hk _ _ (by simp) ?_
    simp [L_when, orL]
  | true =>
    cases hm : keyB m with
    | false =>
      simp only [Bool.not_true, Bool.false_eq_true, if_false, and_false, Bool.not_false]
      refine hk _ _ (by simp) ?_
      simp [L_when, orL]
    | true =>
      simp only [Bool.not_true, Bool.false_eq_true, if_false, and_self, if_true]
      by_cases hlen : (100000 : Int) < b.length
      · rw [if_pos hlen]
        refine hk _ _ (by simp) ?_
        simp [L_when, orL, hlen]
      · rw [if_neg hlen]
        refine hk _ _ (by omega) ?_
        simp only [L_when, orL, hlen, decide_false, Bool.false_eq_true, if_false, ne_eq, not_true_eq_false, if_true]
        exact r2
theorem SeriesPacked_plain (l : List Int) : L_SeriesPacked l = some true := by
  unfold L_SeriesPacked
  refine Gen.use (Series_ok (k := 70) ⟨by simp, by simp⟩ (by omega) (by omega)) (fun a s1 ha hs1 => ?_)
  refine Gen.use (Packed_ok (k := 9) (hs1.less (by omega)) (by omega)) (fun b s2 hb hs2 => ?_)
  refine Gen.use (Some_ok (k := 8) (hs2.less (by omega)) (by simp) (by simp) (by omega)) (fun d s3 hd hs3 => ?_)
  refine Gen.use (Some_ok (k := 7) (hs3.less (by omega)) (by simp) (by simp) (by omega)) (fun m s4 hm hs4 => ?_)
  refine Gen.use (Flip_ok (k := 6) (hs4.less (by omega)) (by omega) (by omega) (by omega)) (fun c s5 hc hs5 => ?_)
  simp only
  have hl : (a.length : Int) ≤ 20 := ha.1
  split
  · have : mkS (0 : Int) 100001 100001 = some (List.replicate (100001 : Int).toNat 0) := by unfold mkS; rw [if_pos (by omega)]
    rw [this]
    simp only [Option.bind_some]
    exact law_tail a ha.2 hl _ d m s1 s3 s4
  · exact law_tail a ha.2 hl _ d m s1 s3 s4
end Go.Beacon
