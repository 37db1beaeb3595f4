/- Checking changes: the program and the reference tell the same. No program in sight. -/
import Derived.Test.YtnahbimoaekobaaGreatDoorChgPdif
set_option linter.unusedVariables false
set_option linter.unusedSimpArgs false
namespace Go.Beacon
open Go Go.Eng

theorem sid_step {α : Type} (id : α → Str) {l : List α} {n : Int} {v : α} (h0 : 0 ≤ n) (hv : idx l n = some v) (hs : SId id (l.take n.toNat)) (hp : ∀ x, 0 < n → idx l (n - 1) = some x → Lib.compareBytes (id x) (id v) < 0) : SId id (l.take (n + 1).toNat) := by
  have g1 := (idx_some hv).2.2
  have e : (n + 1).toNat = n.toNat + 1 := by omega
  obtain ⟨hn, hg⟩ := List.getElem?_eq_some_iff.1 g1
  rw [e, List.take_succ_eq_append_getElem hn]
  unfold SId at hs ⊢
  rw [List.pairwise_append]
  refine ⟨hs, List.pairwise_singleton _ _, fun a ha b hb => ?_⟩
  rw [List.mem_singleton] at hb
  subst hb
  rw [hg]
  obtain ⟨i, hi, rfl⟩ := List.getElem_of_mem ha
  have hi' : i < n.toNat := by simp at hi; omega
  obtain ⟨z, hz, _, _⟩ := idx_lt l (i := n - 1) (by omega) (by omega)
  have g2 := (idx_some hz).2.2
  obtain ⟨hn2, hg2⟩ := List.getElem?_eq_some_iff.1 g2
  have hlast := hp z (by omega) hz
  by_cases c : i = (n - 1).toNat
  · subst c
    rw [List.getElem_take, hg2]; exact hlast
  · have := List.pairwise_iff_getElem.1 hs i (n - 1).toNat hi (by simp; omega) (by omega)
    rw [List.getElem_take (j := n.toNat) (i := (n - 1).toNat), hg2] at this
    exact cmpB_tr this hlast
/-- Changes that may be checked. -/
def CB (c : List Change) : Prop := c.length ≤ 2000 ∧ ∀ x ∈ c, x.Name.length ≤ 100000 ∧ x.From.Words.length ≤ 100000 ∧ x.To.Words.length ≤ 100000
def SC (c : List Change) : Prop := SId Change.Name c
theorem errs_two (c : List Change) (n : Int) (v : Change) (a b : Int) : Q_ChangesFault_l2 c n v a b 0 = if orL [a, b] ≠ 0 then some (.inr (orL [a, b])) else Q_ChangesFault_k2 c n v := by
  unfold Q_ChangesFault_l2
  rw [iter_eq]
  show Option.bind (Q_ChangesFault_b2 c n v a b 0) _ = _
  unfold Q_ChangesFault_b2
  rw [if_pos (by simp), show idx [a, b] 0 = some a from rfl]
  simp only [Option.bind_some]
  by_cases ha : a = 0
  · subst ha
    rw [if_neg (by simp)]
    show iter _ (1 : Int) = _
    rw [iter_eq]
    show Option.bind (Q_ChangesFault_b2 c n v 0 b 1) _ = _
    unfold Q_ChangesFault_b2
    rw [if_pos (by simp), show idx [0, b] 1 = some b from rfl]
    simp only [Option.bind_some]
    by_cases hb : b = 0
    · subst hb
      rw [if_neg (by simp)]
      show iter _ (2 : Int) = _
      rw [iter_eq]
      show Option.bind (Q_ChangesFault_b2 c n v 0 0 2) _ = _
      unfold Q_ChangesFault_b2
      rw [if_neg (by simp), if_neg (by simp [orL])]
      cases Q_ChangesFault_k2 c n v <;> rfl
    · rw [if_pos hb]
      have : orL [0, b] = b := by simp [orL, hb]
      rw [this, if_pos hb]; rfl
  · rw [if_pos ha]
    have : orL [a, b] = a := by simp [orL, ha]
    rw [this, if_pos ha]; rfl
theorem CheckChanges_eq (c : List Change) (hb : CB c) : ∃ r, twin_CheckChanges c = some r ∧ Q_ChangesFault c = some r ∧ (r = 0 → SC c ∧ c.length ≤ 1000) := by
  have hl := hb.1
  unfold twin_CheckChanges Q_ChangesFault
  by_cases h5 : (1000 : Int) < (c.length : Int)
  · rw [if_pos h5, if_pos h5]; exact ⟨2, rfl, rfl, fun h => by omega⟩
  rw [if_neg h5, if_neg h5]
  have key : ∃ r, twin_CheckChanges_l1 c 0 = some r ∧ Q_ChangesFault_l1 c 0 = some r ∧ (r = 0 → SC c) := by
    unfold twin_CheckChanges_l1 Q_ChangesFault_l1
    refine iter_two _ _ (fun n : Int => (c.length - n).toNat) (fun n : Int => 0 ≤ n ∧ n ≤ c.length ∧ SC (c.take n.toNat)) (fun r => r = 0 → SC c) ?_ (c.length + 1) 0 (by omega) ⟨by omega, by omega, by simp [SC, SId]⟩
    rintro n ⟨h0, h1, h2⟩
    unfold twin_CheckChanges_b1 Q_ChangesFault_b1
    by_cases hn : n < c.length
    · obtain ⟨v, hv, hm, _⟩ := idx_lt c h0 hn
      obtain ⟨b1, b2, b3⟩ := hb.2 v hm
      rw [if_pos hn, if_pos hn, hv]
      simp only [Option.bind_some]
      rw [isName_eq (by omega), QPropName_eq (by omega)]
      simp only [Option.bind_some]
      by_cases hd : (!dotB 8 v.Name) = true
      · right; rw [if_pos hd, if_pos hd]; exact ⟨5, rfl, rfl, fun h => by omega⟩
      rw [if_neg hd, if_neg hd, valueFault_eq _ (by omega), valueFault_eq _ (by omega)]
      obtain ⟨e1, he1⟩ := vf_tot v.From (by omega)
      obtain ⟨e2, he2⟩ := vf_tot v.To (by omega)
      rw [he1, he2]
      simp only [Option.bind_some]
      rw [First_eq _ (by simp), errs_two]
      simp only [Option.bind_some]
      by_cases h6 : orL [e1, e2] ≠ 0
      · right; rw [if_pos h6, if_pos h6]; exact ⟨_, rfl, rfl, fun h => absurd h h6⟩
      rw [if_neg h6, if_neg h6]
      unfold Q_ChangesFault_k2
      by_cases hk : v.From = v.To
      · right; rw [if_pos hk, if_pos hk]; exact ⟨3, rfl, rfl, fun h => by omega⟩
      rw [if_neg hk, if_neg hk]
      by_cases hp : 0 < n
      · rw [if_pos hp, if_pos hp, w64_in (x := n - 1) (by omega) (by omega)]
        obtain ⟨z, hz, _, _⟩ := idx_lt c (i := n - 1) (by omega) (by omega)
        rw [hz]
        simp only [Option.bind_some]
        unfold twin_CheckChanges_j1 Q_ChangesFault_j1
        by_cases ho : (Op.bytesLess v.Name z.Name || v.Name == z.Name) = true
        · right; rw [if_pos ho]; exact ⟨7, rfl, rfl, fun h => by omega⟩
        · left; rw [if_neg ho, w64_in (by omega) (by omega)]
          refine ⟨_, rfl, rfl, ⟨by omega, by omega, sid_step Change.Name h0 hv h2 fun x _ hx => ?_⟩, by omega⟩
          rw [hz] at hx
          obtain rfl := Option.some.inj hx
          rw [less_iff] at ho
          have ho' : ¬ Lib.compareBytes v.Name z.Name < 0 ∧ ¬ v.Name = z.Name := by simpa using ho
          have hneg := cmpB_neg v.Name z.Name
          have hz0 : Lib.compareBytes v.Name z.Name ≠ 0 := fun h => ho'.2 (cmpB_zero h)
          omega
      · rw [if_neg hp, if_neg hp]
        left
        unfold twin_CheckChanges_j1 Q_ChangesFault_j1
        rw [if_neg (by simp), w64_in (by omega) (by omega)]
        exact ⟨_, rfl, rfl, ⟨by omega, by omega, sid_step Change.Name h0 hv h2 fun x h _ => absurd h hp⟩, by omega⟩
    · rw [if_neg hn, if_neg hn]
      have hlen : n.toNat = c.length := by omega
      rw [hlen, List.take_length] at h2
      right
      exact ⟨0, rfl, rfl, fun _ => h2⟩
  obtain ⟨r, g1, g2, g3⟩ := key
  exact ⟨r, g1, g2, fun h => ⟨g3 h, by omega⟩⟩
end Go.Beacon
