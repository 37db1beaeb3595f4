/- Names above a name: both ways to tell. No program in sight. -/
import Derived.Test.YtmlgacejioccmaaGreatDoorCmgPfnd
set_option linter.unusedVariables false
set_option linter.unusedSimpArgs false
namespace Go.Beacon
open Go Go.Eng

/-- t stands above name. -/
def abvB (t name : Str) : Bool := (t ++ [46]).isPrefixOf name
theorem abv_iff (t name : Str) : abvB t name = true ↔ ∃ i : Nat, name[i]? = some (46 : UInt8) ∧ name.take i = t := by
  unfold abvB
  rw [List.isPrefixOf_iff_prefix]
  constructor
  · rintro ⟨r, rfl⟩
    exact ⟨t.length, by simp, by simp⟩
  · rintro ⟨i, h1, rfl⟩
    obtain ⟨hi, h2⟩ := List.getElem?_eq_some_iff.1 h1
    refine ⟨name.drop (i + 1), ?_⟩
    rw [List.append_assoc, ← h2, List.singleton_append, ← List.drop_eq_getElem_cons hi, List.take_append_drop]
theorem above_eq (name : Str) (hl : name.length ≤ 1000000) (f : Str → Option Bool) (g : Str → Bool) (hf : ∀ s, f s = some (g s)) :
    ∃ r, twin_above name f = some r ∧ (r = true ↔ ∃ i : Nat, name[i]? = some (46 : UInt8) ∧ g (name.take i) = true) := by
  unfold twin_above twin_above_l1
  refine iter_inv _ (fun n : Int => (name.length - n).toNat) (fun n : Int => 0 ≤ n ∧ n ≤ name.length ∧ ∀ i : Nat, (i : Int) < n → name[i]? = some (46 : UInt8) → g (name.take i) = true → False) _ ?_ _ ⟨by omega, by omega, fun i h => by omega⟩
  rintro n ⟨h0, h1, h2⟩
  unfold twin_above_b1
  by_cases hn : n < name.length
  · obtain ⟨c, hc, _, _⟩ := idx_lt name h0 hn
    have hc' := (idx_some hc).2.2
    rw [if_pos hn, hc]; simp only [Option.bind_some]
    have step : ∀ (hno : name[n.toNat]? = some (46 : UInt8) → g (name.take n.toNat) = true → False), 0 ≤ n + 1 ∧ n + 1 ≤ name.length ∧ ∀ i : Nat, (i : Int) < n + 1 → name[i]? = some (46 : UInt8) → g (name.take i) = true → False := fun hno => ⟨by omega, by omega, fun i hi a b => by
      by_cases e : (i : Int) = n
      · have : n.toNat = i := by omega
        rw [this] at hno; exact hno a b
      · exact h2 i (by omega) a b⟩
    by_cases h46 : (c.toNat : Int) = 46
    · have hc46 : c = 46 := UInt8.toNat_inj.1 (by show c.toNat = 46; omega)
      rw [if_pos h46, slc_in (by omega) (by omega) (by omega)]
      simp only [Option.bind_some, hf]
      have ht : (name.drop (0 : Int).toNat).take (n.toNat - (0 : Int).toNat) = name.take n.toNat := by simp
      rw [ht]
      unfold twin_above_j1
      by_cases hg : g (name.take n.toNat) = true
      · right
        rw [if_pos hg]
        exact ⟨true, rfl, by simp only [true_iff]; exact ⟨n.toNat, by rw [hc', hc46], hg⟩⟩
      · left
        rw [if_neg hg, w64_in (by omega) (by omega)]
        exact ⟨_, rfl, step (fun _ b => hg b), by omega⟩
    · left
      rw [if_neg h46]
      unfold twin_above_j1
      rw [if_neg (by simp), w64_in (by omega) (by omega)]
      refine ⟨_, rfl, step (fun a _ => ?_), by omega⟩
      rw [hc'] at a
      obtain rfl := Option.some.inj a
      exact h46 rfl
  · right
    rw [if_neg hn]
    refine ⟨false, rfl, ?_⟩
    constructor
    · intro h; cases h
    · rintro ⟨i, a, b⟩
      have := (List.getElem?_eq_some_iff.1 a).1
      exact (h2 i (by omega) a b).elim
end Go.Beacon
