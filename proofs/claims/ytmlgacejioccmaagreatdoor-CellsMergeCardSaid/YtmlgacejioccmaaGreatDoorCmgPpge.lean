/- The generators of properties. No program in sight. -/
import Derived.Test.YtmlgacejioccmaaGreatDoorCmgPptl
import Derived.Test.YtmlgacejioccmaaGreatDoorPsrt
set_option linter.unusedVariables false
set_option linter.unusedSimpArgs false
namespace Go.Beacon
open Go Go.Eng

theorem mem_len {l : List Str} {n : Nat} (h : l.all (fun s => decide (s.length ≤ n)) = true) {v : Str} (hv : v ∈ l) : v.length ≤ n := by
  have := List.all_eq_true.1 h v hv
  simpa using this
theorem repA : repeatO ([97] : Str) (41 : Int) = some (Lib.repeatL ([97] : Str) (41 : Int).toNat) := by unfold repeatO; rw [if_pos ⟨by omega, by omega, by decide⟩]
theorem repW : repeatO ([119] : Str) (1001 : Int) = some (Lib.repeatL ([119] : Str) (1001 : Int).toNat) := by unfold repeatO; rw [if_pos ⟨by omega, by omega, by decide⟩]
theorem PropName_k {s : Stm} {K : Int} (hs : SOk s K) (hK : 2 ≤ K) : Gen (Stream_PropName s) (K - 2) (fun t => t.length ≤ 1000) := by
  refine Gen.of ?_
  unfold Stream_PropName
  refine Ok.gen (Flip_k hs (by omega) (by omega) (by omega)) (fun c s1 _ q1 => ?_)
  dsimp only
  split
  · rw [repA]
    simp only [Option.bind_some]
    refine Ok.gen (Some_k q1 (by omega) (by simp) (by simp)) (fun t s2 ht q2 => ?_)
    exact Ok.ret ⟨mem_len (by decide) ht, q2.less (by omega)⟩
  · refine Ok.gen (Some_k q1 (by omega) (by simp) (by simp)) (fun t s2 ht q2 => ?_)
    exact Ok.ret ⟨mem_len (by decide) ht, q2.less (by omega)⟩
theorem RightValue_k {s : Stm} {K : Int} (hs : SOk s K) (hK : 2 ≤ K) : Gen (Stream_RightValue s) (K - 2) (fun v => v.Words.length ≤ 1001) := by
  refine Gen.of ?_
  unfold Stream_RightValue
  refine Ok.gen (Next_k hs (by omega) (by omega) (by omega)) (fun c s1 _ q1 => ?_)
  dsimp only
  split
  · refine Ok.gen (Flip_k q1 (by omega) (by omega) (by omega)) (fun t s2 ht q2 => ?_)
    exact Ok.ret ⟨by simp, q2.less (by omega)⟩
  · split
    · refine Ok.gen (Some_k q1 (by omega) (by simp) (by simp)) (fun t s2 ht q2 => ?_)
      exact Ok.ret ⟨mem_len (n := 1001) (by decide) ht, q2.less (by omega)⟩
    · refine Ok.gen (Pick_k q1 (by omega) (by simp) (by simp)) (fun t s2 ht q2 => ?_)
      exact Ok.ret ⟨by simp, q2.less (by omega)⟩
theorem Value_k {s : Stm} {K : Int} (hs : SOk s K) (hK : 8 ≤ K) : Gen (Stream_Value s) (K - 8) (fun v => v.Words.length ≤ 1001) := by
  refine Gen.of ?_
  unfold Stream_Value Stream_Value_j5 Stream_Value_j4 Stream_Value_j3 Stream_Value_j2 Stream_Value_j1
  refine Ok.gen (RightValue_k hs (by omega)) (fun v s1 h1 q1 => ?_)
  refine Ok.gen (Flip_k q1 (by omega) (by omega) (by omega)) (fun c s2 _ q2 => ?_)
  dsimp only
  split
  · exact Ok.ret ⟨by simp, q2.less (by omega)⟩
  · refine Ok.gen (Flip_k q2 (by omega) (by omega) (by omega)) (fun c s3 _ q3 => ?_)
    dsimp only
    split
    · refine Ok.gen (Next_k q3 (by omega) (by omega) (by omega)) (fun n s4 _ q4 => ?_)
      dsimp only
      split
      · refine Ok.gen (Pick_k q4 (by omega) (by simp) (by simp)) (fun t s5 ht q5 => ?_)
        exact Ok.ret ⟨h1, q5.less (by omega)⟩
      · split
        · exact Ok.ret ⟨h1, q4.less (by omega)⟩
        · split
          · refine Ok.gen (Odd_k q4 (by omega) (by omega) (by omega) (by omega)) (fun t s5 ht q5 => ?_)
            exact Ok.ret ⟨h1, q5.less (by omega)⟩
          · split
            · rw [repW]
              simp only [Option.bind_some]
              refine Ok.gen (Some_k q4 (by omega) (by simp) (by simp)) (fun t s5 ht q5 => ?_)
              exact Ok.ret ⟨mem_len (n := 1001) (by decide +kernel) ht, q5.less (by omega)⟩
            · exact Ok.ret ⟨by simp, q4.less (by omega)⟩
    · exact Ok.ret ⟨h1, q3.less (by omega)⟩
/-- Few and short properties. -/
def PF (k : Nat) (l : List PropS) : Prop := l.length ≤ k ∧ ∀ p ∈ l, p.Name.length ≤ 1000 ∧ p.Value.Words.length ≤ 1001
theorem PF.pb {k : Nat} {l : List PropS} (h : PF k l) (hk : k ≤ 1000) : PB l := ⟨Nat.le_trans h.1 hk, fun p hp => ⟨by have := (h.2 p hp).1; omega, by have := (h.2 p hp).2; omega⟩⟩
theorem PF.snoc {k : Nat} {l : List PropS} {n : Str} {v : ValueS} (h : PF k l) (hn : n.length ≤ 1000) (hv : v.Words.length ≤ 1001) : PF (k + 1) (l ++ [⟨n, v⟩]) :=
  ⟨by have := h.1; simp; omega, fun p hp => by
    rcases List.mem_append.1 hp with e | e
    · exact h.2 p e
    · rw [List.mem_singleton] at e; subst e; exact ⟨hn, hv⟩⟩
end Go.Beacon
