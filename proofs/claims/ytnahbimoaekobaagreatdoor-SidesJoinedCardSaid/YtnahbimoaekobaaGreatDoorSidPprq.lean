/- PropsTell: the law. No program in sight. -/
import Derived.Test.YtnahbimoaekobaaGreatDoorSidPpge
set_option linter.unusedVariables false
set_option linter.unusedSimpArgs false
namespace Go.Beacon
open Go Go.Eng

theorem RightProps_k {s : Stm} {K : Int} (hs : SOk s K) (hK : 16 ≤ K) : Gen (Stream_RightProps s) (K - 16) (fun l => PF 5 l) := by
  unfold Stream_RightProps
  obtain ⟨v, s1, e1, p1, q1⟩ := Range_k (s := s) (a := 0) (b := 5) hs (by omega) (by omega) (by omega) (by omega)
  rw [e1]
  simp only [Option.bind_some]
  exact RightProps_loop (v, s1) p1.2 v.toNat s1.L s1.at_ [] 0 (K - 16) (by show (0 : Int) + (v.toNat : Int) = v; omega) (by omega) (q1.less (by have := p1.2; omega)) (by omega) ⟨by simp, by simp⟩
theorem Props_k {s : Stm} {K : Int} (hs : SOk s K) (hK : 40 ≤ K) : Gen (Stream_Props s) (K - 40) (fun l => PF 6 l) := by
  refine Gen.of ?_
  unfold Stream_Props Stream_Props_j2 Stream_Props_j1
  refine Ok.gen (RightProps_k hs (by omega)) (fun l s1 h1 q1 => ?_)
  refine Ok.gen (Flip_k q1 (by omega) (by omega) (by omega)) (fun c s2 _ q2 => ?_)
  dsimp only
  split
  · refine Ok.gen (PropName_k q2 (by omega)) (fun t s3 h3 q3 => ?_)
    refine Ok.gen (Value_k q3 (by omega)) (fun v s4 h4 q4 => ?_)
    dsimp only
    have hsn := h1.snoc h3 h4
    have happ : app l [(⟨t, v⟩ : PropS)] = some (l ++ [⟨t, v⟩]) := by unfold app; rw [if_pos (by have := h1.1; simp; omega)]
    rw [happ]
    simp only [Option.bind_some]
    refine Ok.gen (Flip_k q4 (by omega) (by omega) (by omega)) (fun c s5 _ q5 => ?_)
    dsimp only
    split
    · obtain ⟨Z, e4, p4⟩ := sortP_eq _ hsn (by omega)
      rw [e4]
      exact Ok.ret ⟨p4, q5.less (by omega)⟩
    · exact Ok.ret ⟨hsn, q5.less (by omega)⟩
  · exact Ok.ret ⟨⟨Nat.le_trans h1.1 (by omega), h1.2⟩, q2.less (by omega)⟩
end Go.Beacon
