/- Checking properties, whole. No program in sight. -/
import Derived.Test.YtmlgacejioccmaaGreatDoorCmgPchk
set_option linter.unusedVariables false
set_option linter.unusedSimpArgs false
namespace Go.Beacon
open Go Go.Eng

theorem vf_tot (v : ValueS) (h : v.Words.length ≤ 1000000) : ∃ r, Q_ValueFault v = some r := by
  have k : ∀ c n q, ∃ r, Q_ValueFault_j1 v c n q = some r := by
    intro c n q
    unfold Q_ValueFault_j1
    rw [Printed_eq _ h]
    repeat' split
    all_goals first
      | exact ⟨_, rfl⟩
      | (simp only [Option.bind_some]; split <;> exact ⟨_, rfl⟩)
  unfold Q_ValueFault Q_ValueFault_j3 Q_ValueFault_j2
  repeat' split
  all_goals first
    | exact ⟨_, rfl⟩
    | exact k _ _ _
theorem sn_step {l : List PropS} {n : Int} {v : PropS} (h0 : 0 ≤ n) (hv : idx l n = some v) (hs : SN (l.take n.toNat)) (hp : ∀ x, 0 < n → idx l (n - 1) = some x → Lib.compareBytes x.Name v.Name < 0) : SN (l.take (n + 1).toNat) := by
  have g1 := (idx_some hv).2.2
  have e : (n + 1).toNat = n.toNat + 1 := by omega
  obtain ⟨hn, hg⟩ := List.getElem?_eq_some_iff.1 g1
  rw [e, List.take_succ_eq_append_getElem hn]
  unfold SN at hs ⊢
  rw [List.pairwise_append]
  refine ⟨hs, List.pairwise_singleton _ _, fun a ha b hb => ?_⟩
  rw [List.mem_singleton] at hb
  subst hb
  rw [hg]
  obtain ⟨i, hi, rfl⟩ := List.getElem_of_mem ha
  have hi' : i < n.toNat := by simp at hi; omega
  obtain ⟨z, hz, _, _⟩ := idx_lt l (i := n - 1) (by omega) (by omega)
  have g2 := (idx_some hz).2.2
  obtain ⟨hn2, hg2⟩ := List.getElem?_eq_some_iff.1 g2
  have hlast := hp z (by omega) hz
  by_cases c : i = (n - 1).toNat
  · subst c
    rw [List.getElem_take, hg2]; exact hlast
  · have := List.pairwise_iff_getElem.1 hs i (n - 1).toNat hi (by simp; omega) (by omega)
    rw [List.getElem_take (j := n.toNat) (i := (n - 1).toNat), hg2] at this
    exact cmpB_tr this hlast
/-- All have values. -/
def KN (l : List PropS) : Prop := ∀ p ∈ l, p.Value.Kind ≠ 0
theorem kn_step {l : List PropS} {n : Int} {v : PropS} (h0 : 0 ≤ n) (hv : idx l n = some v) (hs : KN (l.take n.toNat)) (hk : v.Value.Kind ≠ 0) : KN (l.take (n + 1).toNat) := by
  have g1 := (idx_some hv).2.2
  have e : (n + 1).toNat = n.toNat + 1 := by omega
  obtain ⟨hn, hg⟩ := List.getElem?_eq_some_iff.1 g1
  rw [e, List.take_succ_eq_append_getElem hn, hg]
  intro p hp
  rcases List.mem_append.1 hp with c | c
  · exact hs p c
  · rw [List.mem_singleton] at c; subst c; exact hk
end Go.Beacon
