/- Strings cut at one byte. No program in sight. -/
import Derived.Test.YtmlgacejioccmaaGreatDoorCmgPnum
set_option linter.unusedVariables false
set_option linter.unusedSimpArgs false
namespace Go.Beacon
open Go Go.Eng

/-- A string cut at each byte c. -/
def splitC (c : UInt8) : Str → List Str
  | [] => [[]]
  | b :: r => if b = c then [] :: splitC c r else match splitC c r with
    | [] => [[b]]
    | h :: t => (b :: h) :: t
theorem splitC_ne (c : UInt8) : ∀ s, splitC c s ≠ []
  | [] => by simp [splitC]
  | b :: r => by
    unfold splitC
    split
    · simp
    · split <;> simp
theorem splitC_length (c : UInt8) : ∀ s, (splitC c s).length ≤ s.length + 1
  | [] => by simp [splitC]
  | b :: r => by
    have ih := splitC_length c r
    unfold splitC
    split
    · simp; omega
    · split
      · simp
      · rename_i h t e; rw [e] at ih; simp at ih ⊢; omega
theorem splitC_part (c : UInt8) : ∀ s, ∀ x ∈ splitC c s, x.length ≤ s.length ∧ c ∉ x
  | [] => by simp [splitC]
  | b :: r => by
    have ih := splitC_part c r
    intro x hx
    unfold splitC at hx
    split at hx
    · rcases List.mem_cons.1 hx with rfl | hx
      · simp
      · have := ih x hx; simp; exact ⟨by omega, this.2⟩
    · rename_i hb
      split at hx
      · rename_i e; exact absurd e (splitC_ne c r)
      · rename_i h t e
        rw [e] at ih
        rcases List.mem_cons.1 hx with rfl | hx
        · have := ih h (by simp); simp; exact ⟨this.1, fun e => hb e.symm, this.2⟩
        · have := ih x (by simp [hx]); simp; exact ⟨by omega, this.2⟩
theorem split_C (c : UInt8) : ∀ s, Lib.split s [c] = splitC c s
  | [] => rfl
  | b :: r => by
    have ih := split_C c r
    unfold Lib.split at ih ⊢
    unfold splitC
    by_cases hb : b = c
    · subst hb
      have hix : Lib.index (b :: r) [b] = 0 := by rw [Lib.index]; simp [List.isPrefixOf]
      rw [if_pos rfl, Lib.count_cons_eq, Nat.add_comm, Lib.splitK, hix, ← ih]
      simp
    · rw [if_neg hb, Lib.count_cons_ne b c r hb, ← ih]
      have hp : ([c] : List UInt8).isPrefixOf (b :: r) = false := by simp [List.isPrefixOf, Ne.symm hb]
      have hix : Lib.index (b :: r) [c] = if Lib.index r [c] == -1 then -1 else Lib.index r [c] + 1 := by rw [Lib.index, hp]; simp
      by_cases hm : Lib.index r [c] = -1
      · rw [Lib.count_miss hm]; rfl
      · have hge := Lib.index_ge r [c]
        obtain ⟨j, hj⟩ : ∃ j : Nat, Lib.index r [c] = j := ⟨(Lib.index r [c]).toNat, by omega⟩
        have hix' : Lib.index (b :: r) [c] = ((j + 1 : Nat) : Int) := by rw [hix, if_neg (fun e => hm (beq_iff_eq.1 e)), hj]; omega
        rw [Lib.count_hit (by simp) hj, Nat.add_comm]
        have n1 : ¬ ((((j + 1 : Nat) : Int) == -1) = true) := fun h => by have := beq_iff_eq.1 h; omega
        have n2 : ¬ ((((j : Nat) : Int) == -1) = true) := fun h => by have := beq_iff_eq.1 h; omega
        simp only [Lib.splitK, hix', hj, if_neg n1, if_neg n2]
        simp [List.take_succ_cons]
/-- strings.Split at one byte. -/
theorem splitO_eq {s : Str} {c : UInt8} (h : s.length ≤ 1000000000) : splitO s [c] = some (splitC c s) := by
  unfold splitO
  rw [if_pos ⟨by omega, by simp⟩]
  congr 1
  have h1 := Lib.splitB_data ⟨#[c]⟩ 0 (Lib.countB ⟨s.toArray⟩ ⟨#[c]⟩) ⟨s.toArray⟩
  rw [← split_C]
  exact h1
/-- What is cut comes together again. -/
def joinC (c : UInt8) : List Str → Str
  | [] => []
  | [x] => x
  | x :: y :: r => x ++ c :: joinC c (y :: r)
theorem joinC_split (c : UInt8) : ∀ s, joinC c (splitC c s) = s
  | [] => rfl
  | b :: r => by
    have ih := joinC_split c r
    unfold splitC
    cases e : splitC c r with
    | nil => exact absurd e (splitC_ne c r)
    | cons h t =>
      rw [e] at ih
      split
      · rename_i hb; rw [joinC, ih, hb]; rfl
      · cases t with
        | nil => rw [joinC] at ih; subst ih; rfl
        | cons y t => rw [joinC] at ih ⊢; rw [← ih]; rfl
theorem splitC_none (c : UInt8) : ∀ s, c ∉ s → splitC c s = [s]
  | [], _ => rfl
  | b :: r, h => by
    simp only [List.mem_cons, not_or] at h
    unfold splitC
    rw [if_neg (fun e => h.1 e.symm), splitC_none c r h.2]
theorem splitC_cons (c : UInt8) : ∀ (x r : Str), c ∉ x → splitC c (x ++ c :: r) = x :: splitC c r
  | [], r, _ => by simp [splitC]
  | b :: x, r, h => by
    simp only [List.mem_cons, not_or] at h
    rw [List.cons_append, splitC, if_neg (fun e => h.1 e.symm), splitC_cons c x r h.2]
theorem splitC_join (c : UInt8) : ∀ l : List Str, l ≠ [] → (∀ x ∈ l, c ∉ x) → splitC c (joinC c l) = l
  | [], h, _ => absurd rfl h
  | [x], _, h => splitC_none c x (h x (by simp))
  | x :: y :: r, _, h => by
    rw [joinC, splitC_cons c x _ (h x (by simp)), splitC_join c (y :: r) (by simp) (fun z hz => h z (by simp [hz]))]
end Go.Beacon
