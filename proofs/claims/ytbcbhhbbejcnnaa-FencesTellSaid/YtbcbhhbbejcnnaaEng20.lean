/- The engine, part 20: from a contract of a law to what its row asks. No program in sight. -/
import Derived.Test.YtbcbhhbbejcnnaaEng19
import Derived.Below
set_option linter.unusedVariables false
namespace Go.Eng
open Go Go.RowKit

theorem flat_ints (l : List Int) : flat (l.map I) = l.map I := by
  induction l with
  | nil => rfl
  | cons x r ih => rw [List.map_cons, flat_cons, ih]; rfl

theorem law_walk {P : Program} {f : FuncId} {a : Option Addr} {len cap : Nat} {zs : List Int} {w : World}
    (hrow : (a = none ∧ len = 0 ∧ cap = 0 ∧ zs = []) ∨ ∃ x, a = some x ∧ len ≤ cap ∧ cap ≤ maxLen ∧ zs.length = cap ∧ (∀ i, i < zs.length → w.cell? (x.add i) = some (.int .i64 (zs.getD i 0))) ∧ ∀ n ∈ zs, (Lit.int .i64 n).wf = true)
    (c : ∀ l : List Int, Pu P f [.list 1 (l.map I)] (.bool true)) :
    Calls P f #[.slice a len cap] w fun e w' => e = .returned (.bool true) ∧ Below w.heap.size w w' := by
  let S : Nat → Prop := fun n => n < w.heap.size
  have hat : ∃ l : List Int, At w S (.list 1 (l.map I)) (.slice a len cap) := by
    rcases hrow with ⟨rfl, rfl, rfl, rfl⟩ | ⟨x, rfl, h1, h2, h3, h4, h5⟩
    · exact ⟨[], .list 1 [] none 0 [] (by simp) rfl (by simp [flat]) (by simp) (by simp)⟩
    · refine ⟨zs.take len, ?_⟩
      have hl : ((zs.take len).map I).length = len := by simp; omega
      have key := At.list (w := w) (S := S) 1 ((zs.take len).map I) (some x) cap ((zs.take len).map (fun n => Value.int .i64 n)) ?_ ?_ ?_ ?_ ?_
      · rw [hl] at key; exact key
      · intro y hy
        obtain ⟨n, _, rfl⟩ := List.mem_map.1 hy
        exact ⟨rfl, fun c hc => by simp [AV.cells] at hc; subst hc; rfl⟩
      · rw [flat_ints]; simp
      · intro i c v hc hv
        rw [flat_ints, List.getElem?_map] at hc
        rw [List.getElem?_map] at hv
        cases hn : (zs.take len)[i]? with
        | none => rw [hn] at hc; cases hc
        | some n =>
          rw [hn] at hc hv
          obtain rfl := Option.some.inj hc
          obtain rfl := Option.some.inj hv
          exact .int _ _
      · intro i v hv
        rw [List.getElem?_map] at hv
        cases hn : (zs.take len)[i]? with
        | none => rw [hn] at hv; cases hv
        | some n =>
          rw [hn] at hv
          obtain rfl := Option.some.inj hv
          have hi : i < zs.length := by
            have := (List.getElem?_eq_some_iff.1 hn).1
            simp at this; omega
          have hz : zs.getD i 0 = n := by
            rw [List.getElem?_take] at hn
            split at hn
            · rw [List.getD_eq_getElem?_getD, hn]; rfl
            · cases hn
          have hcell := h4 i hi
          rw [hz] at hcell
          obtain ⟨bk, of, sp⟩ := x
          have hsp : sp = none := by
            cases sp with
            | none => rfl
            | some q =>
              have h40 := h4 0 (by omega)
              unfold World.cell? Addr.add at h40
              simp only [if_true] at h40
              split at h40
              · simp at h40
              · cases h40
          subst hsp
          rw [add_at] at hcell
          have hblk : bk < w.heap.size := by
            rcases Nat.lt_or_ge bk w.heap.size with h | h
            · exact h
            · unfold World.cell? at hcell
              simp only [Array.getElem?_eq_none h] at hcell
              cases hcell
          exact ⟨_, rfl, rfl, hblk, hcell⟩
      · rw [hl]; exact h1
  obtain ⟨l, hat⟩ := hat
  refine (c l w S #[.slice a len cap] (hrel_nil fun n hn => hn) rfl ?_).mono ?_
  · intro i c' v hc hv
    match i with
    | 0 => simp at hc hv; subst hc; subst hv; exact hat
    | i + 1 => simp at hc
  · rintro e w' ⟨v, r, h', S', rfl, rfl, h1, h2, h3⟩
    refine ⟨by rw [h1.bool_inv], h3.os, h3.tape, h3.output, h3.size, fun k hk => (h3.keep k hk).2⟩
end Go.Eng
