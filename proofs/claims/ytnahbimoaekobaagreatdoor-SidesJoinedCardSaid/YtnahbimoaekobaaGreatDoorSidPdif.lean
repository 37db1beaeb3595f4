/- The changes between two lists of properties; changes turned. No program in sight. -/
import Derived.Test.YtnahbimoaekobaaGreatDoorSidPchm
import Derived.Test.YtnahbimoaekobaaGreatDoorSidPok
set_option linter.unusedVariables false
set_option linter.unusedSimpArgs false
namespace Go.Beacon
open Go Go.Eng

theorem flat_len {α β : Type} (g : α → List β) (hg : ∀ x, (g x).length ≤ 1) : ∀ xs : List α, (xs.flatMap g).length ≤ xs.length
  | [] => by simp
  | x :: xs => by
    have h1 := flat_len g hg xs
    have h2 := hg x
    rw [List.flatMap_cons, List.length_append, List.length_cons]; omega
/-- A loop that appends something for each element. -/
theorem iter_fl {α β A : Type} (xs : List α) (g : α → List β) (hg : ∀ x, (g x).length ≤ 1) (f : List β × Int → Option ((List β × Int) ⊕ A)) (r : Option A) (X0 : List β)
    (h1 : ∀ (X : List β) (i : Int) x, 0 ≤ i → i < xs.length → idx xs i = some x → x ∈ xs → X.length ≤ X0.length + xs.length → f (X, i) = some (.inl (X ++ g x, i + 1)))
    (h2 : ∀ i : Int, i = xs.length → f (X0 ++ xs.flatMap g, i) = r.map .inr) : iter f (X0, 0) = r := by
  refine iter_to _ (fun x : List β × Int => (xs.length - x.2).toNat) (fun x : List β × Int => 0 ≤ x.2 ∧ x.2 ≤ xs.length ∧ x.1 = X0 ++ (xs.take x.2.toNat).flatMap g) _ ?_ _ ⟨by simp, by simp, by simp⟩
  rintro ⟨X, n⟩ ⟨g0, g1, g2⟩
  simp only at g0 g1 g2 ⊢
  by_cases hn : n < xs.length
  · left
    obtain ⟨v, hv, hm, _⟩ := idx_lt xs g0 hn
    obtain ⟨hn', hg'⟩ := List.getElem?_eq_some_iff.1 (idx_some hv).2.2
    have e : (n + 1).toNat = n.toNat + 1 := by omega
    have hX : X.length ≤ X0.length + xs.length := by
      rw [g2, List.length_append]
      have := flat_len g hg (xs.take n.toNat)
      simp only [List.length_take] at this
      omega
    refine ⟨_, h1 X n v g0 hn hv hm hX, ⟨by simp only; omega, by simp only; omega, ?_⟩, by simp only; omega⟩
    simp only
    rw [e, List.take_succ_eq_append_getElem hn', g2, hg']; simp
  · right
    have hn' : n = xs.length := by omega
    rw [g2, List.take_of_length_le (by omega)]
    exact h2 n hn'
/-- The change at a name. -/
def difG (a b : List PropS) (n : Str) : List Change := if valL a n ≠ valL b n then [⟨n, valL a n, valL b n⟩] else []
theorem difG_len (a b : List PropS) (n : Str) : (difG a b n).length ≤ 1 := by unfold difG; split <;> simp
def difL (a b : List PropS) (N : List Str) : List Change := N.flatMap (difG a b)
theorem Differ_loop (a b : List PropS) (ha : a.length ≤ 1000) (hb : b.length ≤ 1000) (ua : SN a) (ub : SN b) (N : List Str) (hN : N.length ≤ 100000) : twin_Differ_l1 a b N [] 0 = some (difL a b N, 0) := by
  unfold twin_Differ_l1
  refine iter_fl N (difG a b) (difG_len a b) _ _ [] (fun X i x h0 h1 hx hm hX => ?_) (fun i hi => ?_)
  · simp only [List.length_nil] at hX
    simp only
    rw [twin_Differ_b1, if_pos h1, hx]
    simp only [Option.bind_some]
    rw [TvalueOf_eq a ha ua x, TvalueOf_eq b hb ub x]
    simp only [Option.bind_some]
    unfold twin_Differ_j1 difG
    rw [w64_in (by omega) (by omega)]
    by_cases c : valL a x ≠ valL b x
    · rw [if_pos c, if_pos c, app_le (by simp; omega)]; rfl
    · rw [if_neg c, if_neg c, List.append_nil]
  · simp only
    rw [twin_Differ_b1, if_neg (by omega)]; rfl
theorem DifferOf_loop (a b : List PropS) (ha : a.length ≤ 1000) (hb : b.length ≤ 1000) (N : List Str) (hN : N.length ≤ 100000) : Q_DifferOf_l1 a b N [] 0 = some (difL a b N) := by
  unfold Q_DifferOf_l1
  refine iter_fl N (difG a b) (difG_len a b) _ _ [] (fun X i x h0 h1 hx hm hX => ?_) (fun i hi => ?_)
  · simp only [List.length_nil] at hX
    simp only
    rw [Q_DifferOf_b1, if_pos h1, hx]
    simp only [Option.bind_some]
    rw [QValueOf_eq a ha x, QValueOf_eq b hb x]
    simp only [Option.bind_some]
    unfold Q_DifferOf_j1 difG
    rw [w64_in (by omega) (by omega)]
    by_cases c : valL a x ≠ valL b x
    · rw [if_pos c, if_pos c, app_le (by simp; omega)]; rfl
    · rw [if_neg c, if_neg c, List.append_nil]
  · simp only
    rw [Q_DifferOf_b1, if_neg (by omega)]; rfl
theorem flatN2 (a b : List PropS) : (flatN [a, b]).length = a.length + b.length := by unfold flatN; simp
theorem DifferOf_eq (a b : List PropS) (ha : a.length ≤ 1000) (hb : b.length ≤ 1000) : Q_DifferOf a b = some (difL a b (nmsL [a, b])) := by
  have hf := flatN2 a b
  have hn := nms_len [a, b]
  unfold Q_DifferOf
  rw [namesOf_eq [a, b] (by simp) (by omega)]
  exact DifferOf_loop a b ha hb _ (by omega)
theorem Differ_eq (a b : List PropS) (ha : PB a) (hb : PB b) {r1 r2 : Int} (h1 : twin_CheckProps a = some r1) (h2 : twin_CheckProps b = some r2) (q1 : r1 = 0 → SN a) (q2 : r2 = 0 → SN b) : twin_Differ a b = if orL [r1, r2] ≠ 0 then some ([], orL [r1, r2]) else some (difL a b (nmsL [a, b]), 0) := by
  have hf := flatN2 a b
  have hn := nms_len [a, b]
  have la := ha.1
  have lb := hb.1
  unfold twin_Differ
  rw [h1, h2]
  simp only [Option.bind_some]
  rw [First_eq _ (by simp)]
  simp only [Option.bind_some]
  by_cases c : orL [r1, r2] ≠ 0
  · rw [if_pos c, if_pos c]
  · rw [if_neg c, if_neg c]
    have hz := orL2_zero (x := r1) (y := r2) (by simpa using c)
    rw [names_eq [a, b] (by simp) (by omega)]
    exact Differ_loop a b la lb (q1 hz.1) (q2 hz.2) _ (by omega)
def turnL (c : List Change) : List Change := c.flatMap fun x => [⟨x.Name, x.To, x.From⟩]
end Go.Beacon
