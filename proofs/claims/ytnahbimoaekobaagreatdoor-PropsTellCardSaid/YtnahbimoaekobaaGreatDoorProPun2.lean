/- The properties under a name. No program in sight. -/
import Derived.Test.YtnahbimoaekobaaGreatDoorProPund
import Derived.Test.YtnahbimoaekobaaGreatDoorPcpt
set_option linter.unusedVariables false
set_option linter.unusedSimpArgs false
namespace Go.Beacon
open Go Go.Eng

theorem cloneP_eq (a : List PropS) (h : a.length ≤ 100000) : slices_Clone_Prop_Prop a = some a := by
  unfold slices_Clone_Prop_Prop
  first
    | rfl
    | (simp [app]; omega)
    | (unfold app; rw [if_pos (by simp; omega)]; simp)
theorem UnderOf_eq (l : List PropS) (hl : l.length ≤ 1000) (s : Str) (hs : s.length ≤ 1000000) : Q_UnderOf l s = some (l.filter (undB s)) := by
  unfold Q_UnderOf
  rw [cloneP_eq l (by omega)]
  simp only [Option.bind_some]
  have hdel : slices_DeleteFunc_Prop_Prop l (fun y0 => Q_UnderOf_1x y0 s) = some (l.filter (fun x => !(!undB s x))) := gDel_eq (⟨[], ⟨0, false, 0, []⟩⟩ : PropS) _ (fun x => !undB s x) l (by omega) (fun x _ => by
    unfold Q_UnderOf_1x undB
    rw [Qabove_eq _ _ hs]
    by_cases c : x.Name = s
    · rw [if_neg (fun z => z c)]; simp [c, Q_UnderOf_1x_j1]
    · rw [if_pos c]; simp [c, Q_UnderOf_1x_j1])
  rw [hdel]
  simp
theorem under_loop (l : List PropS) (hl : l.length ≤ 1000) (s : Str) : twin_Under_l1 l s [] 0 = some (l.filter (undB s), 0) := by
  have key : ∃ r, twin_Under_l1 l s [] 0 = some r ∧ r = (l.filter (undB s), (0 : Int)) := by
    unfold twin_Under_l1
    refine iter_inv _ (fun x : List PropS × Int => (l.length - x.2).toNat) (fun x : List PropS × Int => 0 ≤ x.2 ∧ x.2 ≤ l.length ∧ x.1 = (l.take x.2.toNat).filter (undB s)) _ ?_ _ ⟨by simp, by simp, by simp⟩
    rintro ⟨X, n⟩ ⟨h0, h1, h2⟩
    simp only at h0 h1 h2 ⊢
    unfold twin_Under_b1
    by_cases hn : n < l.length
    · left
      obtain ⟨v, hv, _, _⟩ := idx_lt l h0 hn
      obtain ⟨hn', hg⟩ := List.getElem?_eq_some_iff.1 (idx_some hv).2.2
      have e : (n + 1).toNat = n.toNat + 1 := by omega
      have ht : (l.take (n + 1).toNat).filter (undB s) = X ++ (if undB s v = true then [v] else []) := by
        rw [e, List.take_succ_eq_append_getElem hn', List.filter_append, ← h2, hg]
        by_cases c : undB s v = true <;> simp [c]
      have hX : X.length ≤ 1000 := by rw [h2]; exact Nat.le_trans (List.length_filter_le _ _) (by simp; omega)
      have body : ∀ c : Bool, c = undB s v → twin_Under_j1 X n v c = some (.inl (X ++ (if undB s v = true then [v] else []), n + 1)) := by
        intro c hc
        unfold twin_Under_j1 twin_Under_j2
        rw [w64_in (by omega) (by omega), hc]
        by_cases c' : undB s v = true
        · rw [if_pos c', if_pos c']
          unfold app
          rw [if_pos (by simp; omega)]; rfl
        · rw [if_neg c', if_neg c', List.append_nil]
      rw [if_pos hn, hv]
      simp only [Option.bind_some]
      by_cases c : v.Name = s
      · rw [if_pos c, body true (by simp [undB, c])]
        exact ⟨_, rfl, ⟨by simp only; omega, by simp only; omega, ht.symm⟩, by simp only; omega⟩
      · rw [if_neg c, Below_eq]
        simp only [Option.bind_some]
        rw [body (abvB s v.Name) (by simp [undB, c])]
        exact ⟨_, rfl, ⟨by simp only; omega, by simp only; omega, ht.symm⟩, by simp only; omega⟩
    · right
      rw [if_neg hn]
      refine ⟨_, rfl, ?_⟩
      have : n.toNat = l.length := by omega
      rw [h2, this, List.take_length]
  obtain ⟨r, h1, rfl⟩ := key
  exact h1
end Go.Beacon
