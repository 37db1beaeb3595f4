/- Checking properties, whole. No program in sight. -/
import Derived.Test.YtnahbimoaekobaaGreatDoorSidPchk
set_option linter.unusedVariables false
set_option linter.unusedSimpArgs false
namespace Go.Beacon
open Go Go.Eng

theorem vf_tot (v : ValueS) (h : v.Words.length ≤ 1000000) : ∃ r, Q_ValueFault v = some r := by
  have k : ∀ c n q, ∃ r, Q_ValueFault_j1 v c n q = some r := by
    intro c n q
    unfold Q_ValueFault_j1
    rw [Printed_eq _ h]
    repeat' split
    all_goals first
      | exact ⟨_, rfl⟩
      | (simp only [Option.bind_some]; split <;> exact ⟨_, rfl⟩)
  unfold Q_ValueFault Q_ValueFault_j3 Q_ValueFault_j2
  repeat' split
  all_goals first
    | exact ⟨_, rfl⟩
    | exact k _ _ _
theorem sn_step {l : List PropS} {n : Int} {v : PropS} (h0 : 0 ≤ n) (hv : idx l n = some v) (hs : SN (l.take n.toNat)) (hp : ∀ x, 0 < n → idx l (n - 1) = some x → Lib.compareBytes x.Name v.Name < 0) : SN (l.take (n + 1).toNat) := by
  have g1 := (idx_some hv).2.2
  have e : (n + 1).toNat = n.toNat + 1 := by omega
  obtain ⟨hn, hg⟩ := List.getElem?_eq_some_iff.1 g1
  rw [e, List.take_succ_eq_append_getElem hn]
  unfold SN at hs ⊢
  rw [List.pairwise_append]
  refine ⟨hs, List.pairwise_singleton _ _, fun a ha b hb => ?_⟩
  rw [List.mem_singleton] at hb
  subst hb
  rw [hg]
  obtain ⟨i, hi, rfl⟩ := List.getElem_of_mem ha
  have hi' : i < n.toNat := by simp at hi; omega
  obtain ⟨z, hz, _, _⟩ := idx_lt l (i := n - 1) (by omega) (by omega)
  have g2 := (idx_some hz).2.2
  obtain ⟨hn2, hg2⟩ := List.getElem?_eq_some_iff.1 g2
  have hlast := hp z (by omega) hz
  by_cases c : i = (n - 1).toNat
  · subst c
    rw [List.getElem_take, hg2]; exact hlast
  · have := List.pairwise_iff_getElem.1 hs i (n - 1).toNat hi (by simp; omega) (by omega)
    rw [List.getElem_take (j := n.toNat) (i := (n - 1).toNat), hg2] at this
    exact cmpB_tr this hlast
/-- All have values. -/
def KN (l : List PropS) : Prop := ∀ p ∈ l, p.Value.Kind ≠ 0
theorem kn_step {l : List PropS} {n : Int} {v : PropS} (h0 : 0 ≤ n) (hv : idx l n = some v) (hs : KN (l.take n.toNat)) (hk : v.Value.Kind ≠ 0) : KN (l.take (n + 1).toNat) := by
  have g1 := (idx_some hv).2.2
  have e : (n + 1).toNat = n.toNat + 1 := by omega
  obtain ⟨hn, hg⟩ := List.getElem?_eq_some_iff.1 g1
  rw [e, List.take_succ_eq_append_getElem hn, hg]
  intro p hp
  rcases List.mem_append.1 hp with c | c
  · exact hs p c
  · rw [List.mem_singleton] at c; subst c; exact hk
theorem CheckProps_eq (l : List PropS) (hb : PB l) : ∃ r, twin_CheckProps l = some r ∧ Q_PropsFault l = some r ∧ (r = 0 → SN l ∧ l.length ≤ 500 ∧ KN l) := by
  have hl := hb.1
  unfold twin_CheckProps Q_PropsFault
  by_cases h5 : (500 : Int) < (l.length : Int)
  · rw [if_pos h5, if_pos h5]; exact ⟨2, rfl, rfl, fun h => by omega⟩
  rw [if_neg h5, if_neg h5]
  have key : ∃ r, twin_CheckProps_l1 l 0 = some r ∧ Q_PropsFault_l1 l 0 = some r ∧ (r = 0 → SN l ∧ KN l) := by
    unfold twin_CheckProps_l1 Q_PropsFault_l1
    refine iter_two _ _ (fun n : Int => (l.length - n).toNat) (fun n : Int => 0 ≤ n ∧ n ≤ l.length ∧ SN (l.take n.toNat) ∧ KN (l.take n.toNat)) (fun r => r = 0 → SN l ∧ KN l) ?_ (l.length + 1) 0 (by omega) ⟨by omega, by omega, by simp [SN], by simp [KN]⟩
    rintro n ⟨h0, h1, h2, h3⟩
    unfold twin_CheckProps_b1 Q_PropsFault_b1
    by_cases hn : n < l.length
    · obtain ⟨v, hv, hm, _⟩ := idx_lt l h0 hn
      have hbv := hb.2 v hm
      rw [if_pos hn, if_pos hn, hv]
      simp only [Option.bind_some]
      rw [isName_eq (by omega), QPropName_eq (by omega)]
      simp only [Option.bind_some]
      by_cases hd : (!dotB 8 v.Name) = true
      · right; rw [if_pos hd, if_pos hd]; exact ⟨5, rfl, rfl, fun h => by omega⟩
      rw [if_neg hd, if_neg hd, valueFault_eq _ (by omega)]
      obtain ⟨e, he⟩ := vf_tot v.Value (by omega)
      rw [he]
      simp only [Option.bind_some]
      by_cases h6 : e ≠ 0
      · right; rw [if_pos h6, if_pos h6]; exact ⟨e, rfl, rfl, fun h => absurd h h6⟩
      rw [if_neg h6, if_neg h6]
      by_cases hk : v.Value.Kind = 0
      · right; rw [if_pos hk, if_pos hk]; exact ⟨4, rfl, rfl, fun h => by omega⟩
      rw [if_neg hk, if_neg hk]
      by_cases hp : 0 < n
      · rw [if_pos hp, if_pos hp, w64_in (x := n - 1) (by omega) (by omega)]
        obtain ⟨z, hz, _, _⟩ := idx_lt l (i := n - 1) (by omega) (by omega)
        rw [hz]
        simp only [Option.bind_some]
        unfold twin_CheckProps_j1 Q_PropsFault_j1
        by_cases ho : (Op.bytesLess v.Name z.Name || v.Name == z.Name) = true
        · right; rw [if_pos ho]; exact ⟨7, rfl, rfl, fun h => by omega⟩
        · left; rw [if_neg ho, w64_in (by omega) (by omega)]
          refine ⟨_, rfl, rfl, ⟨by omega, by omega, sn_step h0 hv h2 fun x _ hx => ?_, kn_step h0 hv h3 hk⟩, by omega⟩
          rw [hz] at hx
          obtain rfl := Option.some.inj hx
          rw [less_iff] at ho
          have ho' : ¬ Lib.compareBytes v.Name z.Name < 0 ∧ ¬ v.Name = z.Name := by simpa using ho
          have hneg := cmpB_neg v.Name z.Name
          have hz0 : Lib.compareBytes v.Name z.Name ≠ 0 := fun h => ho'.2 (cmpB_zero h)
          omega
      · rw [if_neg hp, if_neg hp]
        left
        unfold twin_CheckProps_j1 Q_PropsFault_j1
        rw [if_neg (by simp), w64_in (by omega) (by omega)]
        exact ⟨_, rfl, rfl, ⟨by omega, by omega, sn_step h0 hv h2 fun x h _ => absurd h hp, kn_step h0 hv h3 hk⟩, by omega⟩
    · rw [if_neg hn, if_neg hn]
      have hlen : n.toNat = l.length := by omega
      rw [hlen, List.take_length] at h2 h3
      obtain ⟨r, g1, g2, _⟩ := loop2_eq l hb h2
      right
      rw [g1, g2]
      exact ⟨r, rfl, rfl, fun _ => ⟨h2, h3⟩⟩
  obtain ⟨r, g1, g2, g3⟩ := key
  exact ⟨r, g1, g2, fun h => ⟨(g3 h).1, by omega, (g3 h).2⟩⟩
end Go.Beacon
