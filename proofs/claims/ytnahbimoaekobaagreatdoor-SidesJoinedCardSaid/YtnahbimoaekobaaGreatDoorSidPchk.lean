/- Checking properties: the program and the reference tell the same. No program in sight. -/
import Derived.Test.YtnahbimoaekobaaGreatDoorSidPabv
set_option linter.unusedVariables false
set_option linter.unusedSimpArgs false
namespace Go.Beacon
open Go Go.Eng

/-- Two loops side by side. -/
theorem iter_two {S A : Type} (f f' : S → Option (S ⊕ A)) (m : S → Nat) (Inv : S → Prop) (R : A → Prop)
    (h : ∀ s, Inv s → (∃ s', f s = some (.inl s') ∧ f' s = some (.inl s') ∧ Inv s' ∧ m s' < m s) ∨ (∃ a, f s = some (.inr a) ∧ f' s = some (.inr a) ∧ R a)) :
    ∀ (n : Nat) s, m s < n → Inv s → ∃ a, iter f s = some a ∧ iter f' s = some a ∧ R a
  | 0, s, hm, hi => by omega
  | n + 1, s, hm, hi => by
    rw [iter_eq f, iter_eq f']
    rcases h s hi with ⟨s', h1, h2, h3, h4⟩ | ⟨a, h1, h2, h3⟩
    · rw [h1, h2]
      exact iter_two f f' m Inv R h n s' (by omega) h3
    · rw [h1, h2]
      exact ⟨a, rfl, rfl, h3⟩
/-- Properties that may be checked. -/
def PB (l : List PropS) : Prop := l.length ≤ 1000 ∧ ∀ p ∈ l, p.Name.length ≤ 100000 ∧ p.Value.Words.length ≤ 100000
theorem has_eq (l : List PropS) (hl : l.length ≤ 1000) (hu : SN l) (s : Str) : twin_CheckProps_1x s l = some (l.any fun q => decide (q.Name = s)) := by
  obtain ⟨r, h1, h2⟩ := find_eq l hl hu s
  unfold twin_CheckProps_1x
  rw [h1]
  simp only [Option.bind_some, Option.some.injEq]
  rw [Bool.eq_iff_iff, decide_eq_true_eq, List.any_eq_true]
  rcases h2 with ⟨p, g1, g2, g3⟩ | ⟨rfl, g⟩
  · exact ⟨fun _ => ⟨p, idx_mem g2, by simp [g3]⟩, fun _ => g1⟩
  · constructor
    · intro h; omega
    · rintro ⟨p, hp, he⟩; exact absurd (by simpa using he) (g p hp)
theorem conf_eq (l : List PropS) (hb : PB l) (hu : SN l) (v : PropS) (hv : v ∈ l) : ∃ r, twin_above v.Name (fun y0 => twin_CheckProps_1x y0 l) = some r ∧ slices_ContainsFunc_Prop_Prop l (fun y0 => Q_PropsFault_1x y0 v) = some r := by
  obtain ⟨r, h1, h2⟩ := above_eq v.Name (by have := (hb.2 v hv).1; omega) (fun y0 => twin_CheckProps_1x y0 l) (fun s => l.any fun q => decide (q.Name = s)) (fun s => has_eq l hb.1 hu s)
  refine ⟨r, h1, ?_⟩
  rw [show slices_ContainsFunc_Prop_Prop l (fun y0 => Q_PropsFault_1x y0 v) = some (l.any fun q => abvB q.Name v.Name) from gContainsFunc_eq l _ _ (fun q hq => by unfold Q_PropsFault_1x; rw [Qabove_eq _ _ (by have := (hb.2 q hq).1; omega)]; rfl) (by have := hb.1; omega)]
  congr 1
  rw [Bool.eq_iff_iff, h2, List.any_eq_true]
  constructor
  · rintro ⟨q, hq, ha⟩
    obtain ⟨i, g1, g2⟩ := (abv_iff _ _).1 ha
    exact ⟨i, g1, List.any_eq_true.2 ⟨q, hq, by simp [g2]⟩⟩
  · rintro ⟨i, g1, g2⟩
    obtain ⟨q, hq, he⟩ := List.any_eq_true.1 g2
    exact ⟨q, hq, (abv_iff _ _).2 ⟨i, g1, (by simpa using he : q.Name = _).symm⟩⟩
theorem loop2_eq (l : List PropS) (hb : PB l) (hu : SN l) : ∃ r, twin_CheckProps_l2 l 0 = some r ∧ Q_PropsFault_l2 l 0 = some r ∧ True := by
  have hl := hb.1
  unfold twin_CheckProps_l2 Q_PropsFault_l2
  refine iter_two _ _ (fun n : Int => (l.length - n).toNat) (fun n : Int => 0 ≤ n ∧ n ≤ l.length) (fun _ => True) ?_ (l.length + 1) 0 (by omega) ⟨by omega, by omega⟩
  rintro n ⟨h0, h1⟩
  unfold twin_CheckProps_b2 Q_PropsFault_b2
  by_cases hn : n < l.length
  · obtain ⟨v, hv, hm, _⟩ := idx_lt l h0 hn
    obtain ⟨r, g1, g2⟩ := conf_eq l hb hu v hm
    rw [if_pos hn, if_pos hn, hv]
    simp only [Option.bind_some, g1, g2]
    cases r with
    | true => right; exact ⟨_, rfl, rfl, trivial⟩
    | false =>
      left
      rw [w64_in (by omega) (by omega)]
      exact ⟨_, rfl, rfl, ⟨by omega, by omega⟩, by omega⟩
  · rw [if_neg hn, if_neg hn]
    right; exact ⟨_, rfl, rfl, trivial⟩
end Go.Beacon
