/- Checking changes: the program and the reference tell the same. No program in sight. -/
import Derived.Test.YtnahbimoaekobaaGreatDoorSidPdif
set_option linter.unusedVariables false
set_option linter.unusedSimpArgs false
namespace Go.Beacon
open Go Go.Eng

theorem sid_step {α : Type} (id : α → Str) {l : List α} {n : Int} {v : α} (h0 : 0 ≤ n) (hv : idx l n = some v) (hs : SId id (l.take n.toNat)) (hp : ∀ x, 0 < n → idx l (n - 1) = some x → Lib.compareBytes (id x) (id v) < 0) : SId id (l.take (n + 1).toNat) := by
  have g1 := (idx_some hv).2.2
  have e : (n + 1).toNat = n.toNat + 1 := by omega
  obtain ⟨hn, hg⟩ := List.getElem?_eq_some_iff.1 g1
  rw [e, List.take_succ_eq_append_getElem hn]
  unfold SId at hs ⊢
  rw [List.pairwise_append]
  refine ⟨hs, List.pairwise_singleton _ _, fun a ha b hb => ?_⟩
  rw [List.mem_singleton] at hb
  subst hb
  rw [hg]
  obtain ⟨i, hi, rfl⟩ := List.getElem_of_mem ha
  have hi' : i < n.toNat := by simp at hi; omega
  obtain ⟨z, hz, _, _⟩ := idx_lt l (i := n - 1) (by omega) (by omega)
  have g2 := (idx_some hz).2.2
  obtain ⟨hn2, hg2⟩ := List.getElem?_eq_some_iff.1 g2
  have hlast := hp z (by omega) hz
  by_cases c : i = (n - 1).toNat
  · subst c
    rw [List.getElem_take, hg2]; exact hlast
  · have := List.pairwise_iff_getElem.1 hs i (n - 1).toNat hi (by simp; omega) (by omega)
    rw [List.getElem_take (j := n.toNat) (i := (n - 1).toNat), hg2] at this
    exact cmpB_tr this hlast
/-- Changes that may be checked. -/
def CB (c : List Change) : Prop := c.length ≤ 2000 ∧ ∀ x ∈ c, x.Name.length ≤ 100000 ∧ x.From.Words.length ≤ 100000 ∧ x.To.Words.length ≤ 100000
def SC (c : List Change) : Prop := SId Change.Name c
end Go.Beacon
