/- Finding a property by binary search. No program in sight. -/
import Derived.Test.YtmlgacejioccmaaGreatDoorCmgPprp
set_option linter.unusedVariables false
set_option linter.unusedSimpArgs false
namespace Go.Beacon
open Go Go.Eng

theorem half2 {i j : Int} (h0 : 0 ≤ i) (h1 : i < j) (h2 : j ≤ 1000000) : w64 (shrI .u64 (IntKind.u64.wrap (w64 (i + j))) (1 : Int)) = (i + j) / 2 := by
  have e1 : w64 (i + j) = i + j := w64_in (by omega) (by omega)
  have e2 : IntKind.u64.wrap (i + j) = i + j := u64_in (by omega) (by omega)
  rw [e1, e2]
  have e3 : shrI .u64 (i + j) 1 = (i + j) / 2 := by
    show (i + j).fdiv 2 = _
    rw [Int.fdiv_eq_ediv_of_nonneg _ (by omega)]
  rw [e3, w64_in] <;> omega
theorem pw_idx {α : Type} {R : α → α → Prop} {l : List α} (h : l.Pairwise R) {i j : Int} {x y : α} (h0 : 0 ≤ i) (h1 : i < j) (hx : idx l i = some x) (hy : idx l j = some y) : R x y := by
  obtain ⟨_, _, g1⟩ := idx_some hx
  obtain ⟨_, _, g2⟩ := idx_some hy
  rw [List.getElem?_eq_some_iff] at g1 g2
  obtain ⟨k1, e1⟩ := g1
  obtain ⟨k2, e2⟩ := g2
  rw [← e1, ← e2]
  exact List.pairwise_iff_getElem.1 h _ _ k1 k2 (by omega)
/-- Properties in order. -/
def SN (l : List PropS) : Prop := l.Pairwise (fun a c => Lib.compareBytes a.Name c.Name < 0)
theorem find_eq (l : List PropS) (hl : l.length ≤ 1000) (hu : SN l) (s : Str) : ∃ r, twin_find l s = some r ∧ ((∃ p, 0 ≤ r ∧ idx l r = some p ∧ p.Name = s) ∨ (r = -1 ∧ ∀ p ∈ l, p.Name ≠ s)) := by
  have key : ∃ r, slices_BinarySearchFunc_Prop_Prop_string l s (fun y0 y1 => some (twin_find_1x y0 y1)) = some r ∧ ((r.2 = true ∧ ∃ p, 0 ≤ r.1 ∧ idx l r.1 = some p ∧ p.Name = s) ∨ (r.2 = false ∧ ∀ p ∈ l, p.Name ≠ s)) := by
    unfold slices_BinarySearchFunc_Prop_Prop_string slices_BinarySearchFunc_Prop_Prop_string_l1
    refine iter_inv _ (fun s : Int × Int => (s.2 - s.1).toNat) (fun q : Int × Int => 0 ≤ q.1 ∧ q.1 ≤ q.2 ∧ q.2 ≤ l.length ∧ (∀ j x, 0 ≤ j → j < q.1 → idx l j = some x → Lib.compareBytes x.Name s < 0) ∧ (∀ j x, q.2 ≤ j → idx l j = some x → ¬ Lib.compareBytes x.Name s < 0)) _ ?_ _ ⟨by simp, by simp, by simp, fun j x h0 h1 => by simp only at h1; omega, fun j x h0 h1 => by simp only at h0; have := (idx_some h1); omega⟩
    rintro ⟨i, j⟩ ⟨h0, h1, h2, h3, h4⟩
    simp only at h0 h1 h2 h3 h4 ⊢
    unfold slices_BinarySearchFunc_Prop_Prop_string_b1
    by_cases hij : i < j
    · rw [if_pos hij, half2 h0 hij (by omega)]
      obtain ⟨y, hy, _, _⟩ := idx_lt l (i := (i + j) / 2) (by omega) (by omega)
      simp only [hy, Option.bind_some, twin_find_1x]
      unfold slices_BinarySearchFunc_Prop_Prop_string_j1
      left
      by_cases hc : Lib.compareBytes y.Name s < 0
      · rw [if_pos hc, w64_in (by omega) (by omega)]
        refine ⟨_, rfl, ⟨by simp only; omega, by simp only; omega, by simp only; omega, fun k x g0 g1 hx => ?_, h4⟩, by simp only; omega⟩
        simp only at g1
        by_cases hk : k = (i + j) / 2
        · subst hk; rw [hx] at hy; obtain rfl := Option.some.inj hy; exact hc
        · exact cmpB_tr (pw_idx hu g0 (show k < (i + j) / 2 by omega) hx hy) hc
      · rw [if_neg hc]
        refine ⟨_, rfl, ⟨by simp only; omega, by simp only; omega, by simp only; omega, h3, fun k x g0 hx => ?_⟩, by simp only; omega⟩
        simp only at g0
        by_cases hk : k = (i + j) / 2
        · subst hk; rw [hx] at hy; obtain rfl := Option.some.inj hy; exact hc
        · intro hlt
          exact hc (cmpB_tr (pw_idx hu (show 0 ≤ (i + j) / 2 by omega) (show (i + j) / 2 < k by omega) hy hx) hlt)
    · rw [if_neg hij]
      right
      have : j = i := by omega
      subst this
      have no : ∀ p ∈ l, p.Name = s → idx l j = some p := by
        intro p hp he
        obtain ⟨n, hn, hx⟩ := List.getElem_of_mem hp
        have hi : idx l (n : Int) = some p := by
          obtain ⟨z, hz, _, _⟩ := idx_lt l (i := (n : Int)) (by omega) (by omega)
          have := (idx_some hz).2.2
          simp [hn] at this
          rw [hz, ← this, hx]
        have hself : Lib.compareBytes p.Name s = 0 := by rw [he]; have := cmpB_neg s s; omega
        rcases Int.lt_trichotomy (n : Int) j with c | c | c
        · have := h3 n p (by omega) c hi; omega
        · rw [← c]; exact hi
        · obtain ⟨z, hz, _, _⟩ := idx_lt l h0 (by omega)
          have a1 := h4 j z (by omega) hz
          have a2 := pw_idx hu h0 c hz hi
          rw [he] at a2
          exact absurd a2 a1
      unfold slices_BinarySearchFunc_Prop_Prop_string_k3 slices_BinarySearchFunc_Prop_Prop_string_j2
      split
      · rename_i hlt
        obtain ⟨y, hy, _, _⟩ := idx_lt l h0 hlt
        simp only [hy, Option.bind_some, twin_find_1x]
        by_cases hc : Lib.compareBytes y.Name s = 0
        · exact ⟨_, rfl, .inl ⟨by simp [hc], y, h0, hy, cmpB_zero hc⟩⟩
        · refine ⟨_, rfl, .inr ⟨by simp [hc], fun p hp he => ?_⟩⟩
          have := no p hp he
          rw [hy] at this; obtain rfl := Option.some.inj this
          exact hc (by rw [he]; have := cmpB_neg s s; omega)
      · rename_i hlt
        refine ⟨_, rfl, .inr ⟨rfl, fun p hp he => ?_⟩⟩
        have := (idx_some (no p hp he)); omega
  obtain ⟨r, h1, h2⟩ := key
  unfold twin_find
  rw [h1]
  simp only [Option.bind_some]
  rcases h2 with ⟨e, p, g1, g2, g3⟩ | ⟨e, g⟩
  · rw [e, if_neg (by simp)]; exact ⟨_, rfl, .inl ⟨p, g1, g2, g3⟩⟩
  · rw [e, if_pos (by simp)]; exact ⟨_, rfl, .inr ⟨rfl, g⟩⟩
end Go.Beacon
