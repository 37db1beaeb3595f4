/- Notes: the checks of the program and of the reference; what is drawn. No program in sight. -/
import Derived.Test.YtfplpihogacmaaaDoorNotPmar
set_option linter.unusedVariables false
set_option linter.unusedSimpArgs false
namespace Go.Beacon
open Go Go.Eng

def leS (a b : Str) : Bool := Op.bytesLess a b || a == b
def ordE (p : Option Note) (x : Note) : Bool := match p with
  | none => false
  | some q => leS x.Letter.Id q.Letter.Id
def notStep (prev : Option Note) (n : Note) : Int :=
  if letE n.Letter ≠ 0 then letE n.Letter else if n.State < 1 ∨ 7 < n.State then 4 else if n.Tries < 0 ∨ 20 < n.Tries ∨ n.Since < 0 ∨ 345686399999 < n.Since then 1 else if ordE prev n = true then 7 else 0
def chkN (xs : List Note) : Int := if (1500 : Int) < xs.length then 2 else scanC notStep none xs
theorem CheckNotes_eq (xs : List Note) : command_CheckNotes xs = some (chkN xs) := by
  unfold command_CheckNotes chkN
  split
  · rfl
  · rename_i hl
    unfold command_CheckNotes_l1
    refine scan_all notStep xs _ (fun {i s} h0 h1 hs => ?_) (by show command_CheckNotes_b1 xs _ = _; rw [command_CheckNotes_b1, if_neg (by omega)]; rfl)
    show command_CheckNotes_b1 xs i = _
    rw [command_CheckNotes_b1, if_pos h1, hs]
    simp only [Option.bind_some, CheckLetter_eq]
    unfold notStep
    by_cases hle : letE s.Letter = 0
    · rw [if_neg (by simpa using hle)]
      simp only [hle, ne_eq, not_true_eq_false, if_false]
      have e1 : base_Out s.State 1 7 = true ↔ (s.State < 1 ∨ 7 < s.State) := by rw [Out_eq]; simp
      by_cases h2 : s.State < 1 ∨ 7 < s.State
      · rw [if_pos (e1.2 h2), if_pos h2]; rfl
      · rw [if_neg (fun h => h2 (e1.1 h)), if_neg h2]
        unfold command_CheckNotes_j1
        have e2 : (base_Out s.Tries 0 20 || !base_Moment s.Since) = true ↔ (s.Tries < 0 ∨ 20 < s.Tries ∨ s.Since < 0 ∨ 345686399999 < s.Since) := by
          rw [Out_eq, Moment_eq]
          simp only [Bool.or_eq_true, Bool.not_eq_true', Bool.and_eq_false_iff, decide_eq_true_eq, decide_eq_false_iff_not]
          omega
        by_cases h3 : s.Tries < 0 ∨ 20 < s.Tries ∨ s.Since < 0 ∨ 345686399999 < s.Since
        · rw [if_pos (e2.2 h3), if_pos h3]; rfl
        · rw [if_neg (fun h => h3 (e2.1 h)), if_neg h3]
          unfold command_CheckNotes_j2
          rw [w64_in (x := i + 1) (by omega) (by omega)]
          by_cases hi : 0 < i
          · obtain ⟨p, hp, _, _⟩ := idx_lt xs (i := i - 1) (by omega) (by omega)
            have hpa : prevOf xs i = some p := by unfold prevOf; rw [if_neg (by omega), hp]
            rw [hpa, if_pos hi, w64_in (by omega) (by omega), hp]
            simp only [Option.bind_some]
            show (if ordE (some p) s = true then _ else _) = _
            cases ordE (some p) s <;> rfl
          · have hpa : prevOf xs i = none := by unfold prevOf; rw [if_pos (by omega)]
            rw [hpa, if_neg hi]; rfl
    · rw [if_pos hle]
      simp only [hle, ne_eq, not_false_eq_true, if_true, if_false]
      rfl
theorem keyB_ne {s : Str} (h : keyB s = true) : s ≠ [] := by
  rintro rfl; simp [keyB] at h
theorem letE_key {l : Letter} (h : letE l = 0) : keyB l.Id = true := by
  unfold letE at h
  split at h
  · omega
  · rename_i hk
    cases hb : keyB l.Id with
    | true => rfl
    | false => exact absurd (.inl hb) hk
def lastId (p : Option Note) : Str := match p with
  | none => []
  | some n => n.Letter.Id
theorem NotesFault_loop (xs : List Note) (hl : (xs.length : Int) ≤ 1500) : ∀ (m i : Nat) (p : Option Note), i + m = xs.length → Q_NotesFault_l1 xs (lastId p) i = some (scanC notStep p (xs.drop i)) := by
  intro m
  induction m with
  | zero =>
    intro i p hi
    unfold Q_NotesFault_l1
    rw [iter_eq, Q_NotesFault_b1, if_neg (by simp only; omega), map_inr_after, List.drop_of_length_le (by omega)]
    rfl
  | succ m ih =>
    intro i p hi
    obtain ⟨x, hx, hxm, hd⟩ := idx_lt xs (i := (i : Int)) (by omega) (by omega)
    rw [show ((i : Int)).toNat = i by omega, show ((i : Int) + 1).toNat = i + 1 by omega] at hd
    have w1 : w64 ((i : Int) + 1) = ((i + 1 : Nat) : Int) := by rw [w64_in] <;> omega
    have ih' := ih (i + 1) (some x) (by omega)
    unfold Q_NotesFault_l1 at ih' ⊢
    rw [iter_eq, Q_NotesFault_b1, if_pos (by simp only; omega)]
    simp only [hx, Option.bind_some, LetterFault_eq, hd, scanC]
    by_cases hle : letE x.Letter = 0
    · rw [if_neg (by simpa using hle)]
      have hns : notStep p x = if x.State < 1 ∨ 7 < x.State then 4 else if x.Tries < 0 ∨ 20 < x.Tries ∨ x.Since < 0 ∨ 345686399999 < x.Since then 1 else if ordE p x = true then 7 else 0 := by
        unfold notStep; simp only [hle, ne_eq, not_true_eq_false, if_false]
      rw [hns]
      have e1 : (!Q_in x.State 1 7) = true ↔ (x.State < 1 ∨ 7 < x.State) := by
        rw [Qin_eq]; simp only [Bool.not_eq_true', Bool.and_eq_false_iff, decide_eq_false_iff_not]; omega
      by_cases h2 : x.State < 1 ∨ 7 < x.State
      · rw [if_pos (e1.2 h2), if_pos h2, if_neg (by omega)]; rfl
      · rw [if_neg (fun h => h2 (e1.1 h)), if_neg h2]
        unfold Q_NotesFault_j1
        have e2 : (!Q_in x.Tries 0 20 || !Q_Moment x.Since) = true ↔ (x.Tries < 0 ∨ 20 < x.Tries ∨ x.Since < 0 ∨ 345686399999 < x.Since) := by
          rw [Qin_eq, QMoment_eq]
          simp only [Bool.or_eq_true, Bool.not_eq_true', Bool.and_eq_false_iff, decide_eq_true_eq, decide_eq_false_iff_not]
          omega
        by_cases h3 : x.Tries < 0 ∨ 20 < x.Tries ∨ x.Since < 0 ∨ 345686399999 < x.Since
        · rw [if_pos (e2.2 h3), if_pos h3, if_neg (by omega)]; rfl
        · rw [if_neg (fun h => h3 (e2.1 h)), if_neg h3]
          have hb : (Op.bytesLess x.Letter.Id (lastId p) || x.Letter.Id == lastId p) = ordE p x := by
            cases p with
            | some p => rfl
            | none =>
              have hne := keyB_ne (letE_key hle)
              show (Op.bytesLess x.Letter.Id [] || x.Letter.Id == []) = false
              cases hid : x.Letter.Id with
              | nil => exact absurd hid hne
              | cons a b => rfl
          rw [hb]
          cases hls : ordE p x with
          | true => simp
          | false =>
            simp only [Bool.false_eq_true, if_false, if_true, w1, Option.bind_some, after_inl]
            exact ih'
    · rw [if_pos hle]
      have hns : notStep p x = letE x.Letter := by unfold notStep; rw [if_pos hle]
      rw [hns, if_neg hle]; rfl
theorem NotesFault_eq (xs : List Note) : Q_NotesFault xs = some (chkN xs) := by
  unfold Q_NotesFault chkN
  split
  · rfl
  · rename_i hl
    have := NotesFault_loop xs (by omega) xs.length 0 none (by omega)
    rw [List.drop_zero] at this
    exact this
/-! what a right list is -/
structure NotR (n : Note) : Prop where
  letter : letE n.Letter = 0
  state : 1 ≤ n.State ∧ n.State ≤ 7
  tries : 0 ≤ n.Tries ∧ n.Tries ≤ 20
  since : 0 ≤ n.Since ∧ n.Since ≤ 345686399999
def ltS (a b : Note) : Prop := Lib.compareBytes a.Letter.Id b.Letter.Id < 0
theorem leS_false {a b : Str} (h : leS a b = false) : Lib.compareBytes b a < 0 := by
  unfold leS at h
  rw [Bool.or_eq_false_iff, less_iff] at h
  have h1 : ¬ Lib.compareBytes a b < 0 := by simpa using h.1
  have h2 : a ≠ b := by simpa using h.2
  have n1 := cmpB_3.neg a b
  have : Lib.compareBytes a b ≠ 0 := fun h => h2 (cmpB_zero h)
  omega
theorem notStep_R {p : Option Note} {n : Note} (h : notStep p n = 0) : NotR n ∧ ∀ q, p = some q → ltS q n := by
  unfold notStep at h
  by_cases hle : letE n.Letter = 0
  · rw [if_neg (by simpa using hle)] at h
    split at h
    · omega
    · split at h
      · omega
      · refine ⟨⟨hle, by omega, by omega, by omega⟩, fun q hq => ?_⟩
        subst hq
        cases hls : ordE (some q) n with
        | true => rw [hls] at h; simp at h
        | false => exact leS_false hls
  · rw [if_pos hle] at h; exact absurd h hle
theorem scanN_R : ∀ {xs : List Note} {p : Option Note}, scanC notStep p xs = 0 → (∀ x ∈ xs, NotR x) ∧ xs.Pairwise ltS ∧ ∀ q, p = some q → ∀ x ∈ xs, ltS q x
  | [], p, _ => ⟨fun x hx => by simp at hx, List.Pairwise.nil, fun q _ x hx => by simp at hx⟩
  | s :: r, p, h => by
    simp only [scanC] at h
    by_cases h0 : notStep p s = 0
    · rw [if_pos h0] at h
      obtain ⟨a1, a2⟩ := notStep_R h0
      obtain ⟨b1, b2, b3⟩ := scanN_R h
      refine ⟨fun x hx => ?_, List.pairwise_cons.2 ⟨b3 s rfl, b2⟩, fun q hq x hx => ?_⟩
      · rcases List.mem_cons.1 hx with rfl | hx
        · exact a1
        · exact b1 x hx
      · rcases List.mem_cons.1 hx with rfl | hx
        · exact a2 q hq
        · exact cmpB_3.tr (a2 q hq) (b3 s rfl x hx)
    · rw [if_neg h0] at h; exact absurd h h0
theorem chkN_R {xs : List Note} (h : chkN xs = 0) : (∀ x ∈ xs, NotR x) ∧ xs.Pairwise ltS ∧ xs.length ≤ 1500 := by
  unfold chkN at h
  split at h
  · omega
  · obtain ⟨a, b, _⟩ := scanN_R h; exact ⟨a, b, by omega⟩
end Go.Beacon
