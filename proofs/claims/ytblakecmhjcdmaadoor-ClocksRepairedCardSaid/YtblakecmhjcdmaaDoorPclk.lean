/- Clocks: where most pings agree; a sweep over sorted ends against counting at every cut. No program in sight. -/
import Derived.Test.YtblakecmhjcdmaaDoorPmap
set_option linter.unusedVariables false
set_option linter.unusedSimpArgs false
namespace Go.Beacon
open Go Go.Eng

structure Best where
  low : Int
  high : Int
  many : Int
deriving DecidableEq
section
variable (f : Int → Int)
def stepW (B : Best) (p q : Int) : Best :=
  if B.many < f p then ⟨p, q - 1, f p⟩ else if f p = B.many ∧ B.high = p - 1 then ⟨B.low, q - 1, B.many⟩ else B
def progC : List Int → Best → Best
  | [], B => B
  | [_], B => B
  | p :: q :: r, B => progC (q :: r) (stepW f B p q)
def scanH (n : Int) : Int → List Int → Int
  | H, [] => H
  | H, d :: ds => if f d ≠ n then max H (d - 1) else scanH n (max H (d - 1)) ds
def refC : List Int → Best → Best
  | [], R => R
  | p :: r, R => refC r (if f p ≤ R.many then R else ⟨p, scanH f (f p) p (p :: r), f p⟩)
def runE (n : Int) : List Int → Int
  | [] => 0
  | d :: ds => if f d ≠ n then d - 1 else runE n ds
theorem runE_mem {n : Int} : ∀ {L : List Int}, (∃ d ∈ L, f d ≠ n) → ∃ d ∈ L, f d ≠ n ∧ runE f n L = d - 1
  | [], ⟨d, h, _⟩ => by simp at h
  | x :: r, ⟨d, hd, hn⟩ => by
    unfold runE
    by_cases h : f x ≠ n
    · rw [if_pos h]; exact ⟨x, by simp, h, rfl⟩
    · rw [if_neg h]
      rcases List.mem_cons.1 hd with rfl | hd
      · exact absurd hn h
      · obtain ⟨e, e1, e2, e3⟩ := runE_mem (L := r) ⟨d, hd, hn⟩
        exact ⟨e, by simp [e1], e2, e3⟩
theorem scanH_eq {n : Int} : ∀ {L : List Int} {H : Int}, L.Pairwise (· ≤ ·) → (∃ d ∈ L, f d ≠ n) → scanH f n H L = max H (runE f n L)
  | [], H, _, ⟨d, h, _⟩ => by simp at h
  | x :: r, H, hs, ⟨d, hd, hn⟩ => by
    have hs' := List.pairwise_cons.1 hs
    unfold scanH runE
    by_cases h : f x ≠ n
    · rw [if_pos h, if_pos h]
    · rw [if_neg h, if_neg h]
      have hr : ∃ d ∈ r, f d ≠ n := by
        rcases List.mem_cons.1 hd with rfl | hd
        · exact absurd hn h
        · exact ⟨d, hd, hn⟩
      rw [scanH_eq hs'.2 hr]
      obtain ⟨e, e1, _, e3⟩ := runE_mem f hr
      have := hs'.1 e e1
      rw [e3]; omega
theorem stepW_two (B : Best) (p q : Int) : stepW f (stepW f B p p) p q = stepW f B p q := by
  unfold stepW
  by_cases h1 : B.many < f p
  · rw [if_pos h1, if_pos h1]
    simp
  · rw [if_neg h1, if_neg h1]
    by_cases h2 : f p = B.many ∧ B.high = p - 1
    · rw [if_pos h2, if_pos h2]
      simp [h2.1]
    · rw [if_neg h2, if_neg h1, if_neg h2]
/-- Equal ones in a row are as one. -/
theorem progC_same (p : Int) : ∀ (m : Nat) (q : Int) (r : List Int) (B : Best), progC f (p :: (List.replicate m p ++ q :: r)) B = progC f (q :: r) (stepW f B p q)
  | 0, q, r, B => rfl
  | m + 1, q, r, B => by
    show progC f (p :: (List.replicate m p ++ q :: r)) (stepW f B p p) = _
    rw [progC_same p m q r, stepW_two]
theorem progC_end (p : Int) (hp : f p = 0) : ∀ (m : Nat) (B : Best), 0 ≤ B.many → progC f (p :: List.replicate m p) B = B
  | 0, B, _ => rfl
  | m + 1, B, hB => by
    have e : stepW f B p p = B := by
      unfold stepW
      rw [hp, if_neg (by omega)]
      split
      · rename_i h; rw [← h.2]
      · rfl
    show progC f (p :: List.replicate m p) (stepW f B p p) = B
    rw [e, progC_end p hp m B hB]
structure RelB (B R : Best) (p : Int) (r : List Int) : Prop where
  low : B.low = R.low
  many : B.many = R.many
  pos : 0 < B.many
  high : (B.high = p - 1 ∧ R.high = runE f B.many (p :: r)) ∨ (B.high < p - 1 ∧ R.high = B.high)
theorem sweep : ∀ (r : List Int) (p : Int) (B R : Best), (p :: r).Pairwise (· ≤ ·) → RelB f B R p r → (∀ l, (p :: r).getLast? = some l → f l = 0) → progC f (p :: r) B = refC f (p :: r) R ∧ 0 < (progC f (p :: r) B).many
  | [], p, B, R, _, h, hl => by
    have h0 : f p = 0 := hl p rfl
    show B = refC f [] (if f p ≤ R.many then R else _) ∧ 0 < B.many
    rw [if_pos (by have := h.pos; have := h.many; omega)]
    refine ⟨?_, h.pos⟩
    show B = R
    have hh : B.high = R.high := by
      rcases h.high with ⟨a, b⟩ | ⟨a, b⟩
      · unfold runE at b; rw [if_pos (by have := h.pos; omega)] at b; omega
      · exact b.symm
    cases B; cases R
    have h1 := h.low; have h2 := h.many
    simp only at h1 h2 hh
    subst h1; subst h2; subst hh; rfl
  | q :: r, p, B, R, hs, h, hl => by
    have hs' := List.pairwise_cons.1 hs
    have hpq : p ≤ q := hs'.1 q (by simp)
    have hl' : ∀ l, (q :: r).getLast? = some l → f l = 0 := fun l hl2 => hl l (by rw [List.getLast?_cons_cons]; exact hl2)
    have hpos := h.pos
    have hend : ∀ n : Int, 0 < n → ∃ d ∈ (q :: r), f d ≠ n := fun n hn => by
      obtain ⟨l, hl2⟩ : ∃ l, (q :: r).getLast? = some l := by
        cases hc : (q :: r).getLast? with
        | none => simp at hc
        | some l => exact ⟨l, rfl⟩
      exact ⟨l, List.mem_of_getLast? hl2, by have := hl' l hl2; omega⟩
    show progC f (q :: r) (stepW f B p q) = refC f (q :: r) (if f p ≤ R.many then R else ⟨p, scanH f (f p) p (p :: q :: r), f p⟩) ∧ _
    refine sweep r q _ _ hs'.2 ?_ hl'
    by_cases h1 : B.many < f p
    · rw [if_neg (by have := h.many; omega)]
      have e : stepW f B p q = ⟨p, q - 1, f p⟩ := by unfold stepW; rw [if_pos h1]
      rw [e]
      refine ⟨rfl, rfl, by show 0 < f p; omega, .inl ⟨rfl, ?_⟩⟩
      show scanH f (f p) p (p :: q :: r) = runE f (f p) (q :: r)
      have hex := hend (f p) (by omega)
      obtain ⟨d, d1, d2, d3⟩ := runE_mem f hex
      have hpd : p ≤ d := hs'.1 d d1
      have hne : d ≠ p := fun q => d2 (by rw [q])
      rw [scanH_eq f hs (by obtain ⟨d, d1, d2⟩ := hex; exact ⟨d, by simp [d1], d2⟩)]
      rw [show runE f (f p) (p :: q :: r) = runE f (f p) (q :: r) by rw [runE]; simp]
      rw [d3]; omega
    · rw [if_pos (by have := h.many; omega)]
      by_cases h2 : f p = B.many
      · by_cases h3 : B.high = p - 1
        · have e : stepW f B p q = ⟨B.low, q - 1, B.many⟩ := by unfold stepW; rw [if_neg h1, if_pos ⟨h2, h3⟩]
          rw [e]
          refine ⟨h.low, h.many, hpos, .inl ⟨rfl, ?_⟩⟩
          rcases h.high with ⟨_, b⟩ | ⟨a, _⟩
          · rw [b]
            show runE f B.many (p :: q :: r) = runE f B.many (q :: r)
            rw [runE]; simp [h2]
          · omega
        · have e : stepW f B p q = B := by unfold stepW; rw [if_neg h1, if_neg (fun c => h3 c.2)]
          rw [e]
          refine ⟨h.low, h.many, hpos, .inr ?_⟩
          rcases h.high with ⟨a, _⟩ | ⟨a, b⟩
          · exact absurd a h3
          · exact ⟨by omega, b⟩
      · have e : stepW f B p q = B := by unfold stepW; rw [if_neg h1, if_neg (fun c => h2 c.1)]
        rw [e]
        refine ⟨h.low, h.many, hpos, ?_⟩
        rcases h.high with ⟨a, b⟩ | ⟨a, b⟩
        · rw [runE, if_pos h2] at b
          by_cases hq : q = p
          · subst hq
            refine .inl ⟨a, ?_⟩
            rw [b, runE, if_pos h2]
          · exact .inr ⟨by omega, by omega⟩
        · exact .inr ⟨by omega, b⟩
/-- From the beginning. -/
theorem sweep0 (p : Int) (r : List Int) (hs : (p :: r).Pairwise (· ≤ ·)) (hp : 0 < f p) (hl : ∀ l, (p :: r).getLast? = some l → f l = 0) : progC f (p :: r) ⟨0, 0, 0⟩ = refC f (p :: r) ⟨0, 0, 0⟩ ∧ 0 < (progC f (p :: r) ⟨0, 0, 0⟩).many := by
  cases r with
  | nil => have := hl p rfl; omega
  | cons q r =>
    have hs' := List.pairwise_cons.1 hs
    have hl' : ∀ l, (q :: r).getLast? = some l → f l = 0 := fun l hl2 => hl l (by rw [List.getLast?_cons_cons]; exact hl2)
    have hex : ∃ d ∈ (q :: r), f d ≠ f p := by
      obtain ⟨l, hl2⟩ : ∃ l, (q :: r).getLast? = some l := by
        cases hc : (q :: r).getLast? with
        | none => simp at hc
        | some l => exact ⟨l, rfl⟩
      exact ⟨l, List.mem_of_getLast? hl2, by have := hl' l hl2; omega⟩
    show progC f (q :: r) (stepW f ⟨0, 0, 0⟩ p q) = refC f (q :: r) (if f p ≤ 0 then ⟨0, 0, 0⟩ else ⟨p, scanH f (f p) p (p :: q :: r), f p⟩) ∧ _
    refine sweep f r q _ _ hs'.2 ?_ hl'
    rw [if_neg (by omega)]
    have e : stepW f ⟨0, 0, 0⟩ p q = ⟨p, q - 1, f p⟩ := by unfold stepW; rw [if_pos (by exact hp)]
    rw [e]
    refine ⟨rfl, rfl, hp, .inl ⟨rfl, ?_⟩⟩
    show scanH f (f p) p (p :: q :: r) = runE f (f p) (q :: r)
    obtain ⟨d, d1, d2, d3⟩ := runE_mem f hex
    have hpd : p ≤ d := hs'.1 d d1
    have hne : d ≠ p := fun q => d2 (by rw [q])
    rw [scanH_eq f hs (by obtain ⟨d, d1, d2⟩ := hex; exact ⟨d, by simp [d1], d2⟩)]
    rw [show runE f (f p) (p :: q :: r) = runE f (f p) (q :: r) by rw [runE]; simp]
    rw [d3]; omega
end
end Go.Beacon
