/- Fences and spots that are drawn. No program in sight. -/
import Derived.Test.YtfplpihogacmaaaFmePpld
set_option linter.unusedVariables false
set_option linter.unusedSimpArgs false
namespace Go.Beacon
open Go Go.Eng

theorem Place_ok {s : Stm} {k : Int} (hs : SOk s (k + 2)) (hk : 0 ≤ k) : Gen (Stream_Place s) k (fun p => (-5 ≤ p.X ∧ p.X ≤ 20) ∧ (-5 ≤ p.Y ∧ p.Y ≤ 20)) := by
  unfold Stream_Place
  refine Gen.bind (Pick_ok (k := k + 1) (hs.less (by omega)) (by simp) (by simp) (by omega)) (fun a s1 ha hs1 => ?_)
  refine Gen.bind (Pick_ok (k := k) (hs1.less (by omega)) (by simp) (by simp) (by omega)) (fun b s2 hb hs2 => ?_)
  exact Gen.ret ⟨pick_le ha (by decide), pick_le hb (by decide)⟩ hs2
theorem Spot_ok {s : Stm} {k : Int} (hs : SOk s (k + 5)) (hk : 0 ≤ k) : Gen (Stream_Spot s) k (fun p => (-1099511627777 ≤ p.X ∧ p.X ≤ 1099511627777) ∧ (-1099511627777 ≤ p.Y ∧ p.Y ≤ 1099511627777)) := by
  unfold Stream_Spot Stream_Spot_j1
  refine Gen.bind (Place_ok (k := k + 3) (hs.less (by omega)) (by omega)) (fun a s1 ha hs1 => ?_)
  refine Gen.bind (Flip_ok (k := k + 2) (hs1.less (by omega)) (by omega) (by omega) (by omega)) (fun c s2 hc hs2 => ?_)
  simp only
  split
  · refine Gen.bind (Odd_ok (k := k) (hs2.less (by omega)) (by omega) (by omega) (by omega) (by omega)) (fun b s3 hb hs3 => ?_)
    exact Gen.ret ⟨by simp only; omega, by simp only; omega⟩ hs3
  · exact Gen.ret ⟨by simp only; omega, by simp only; omega⟩ (hs2.less (by omega))
def LenB (l : List Spot) : Prop := 3 ≤ l.length ∧ l.length ≤ 10
/-- One of the rounds: another one, or a right fence. -/
def RG (m : Option (((List Int) × Int × Int) ⊕ (FenceS × Stm))) (n : Int) (k : Int) : Prop := (∃ l a, m = some (.inl (l, a, n + 1)) ∧ SOk ⟨l, a⟩ k) ∨ (∃ f s, m = some (.inr (f, s)) ∧ SOk s k ∧ LenB f.Corners)
theorem RF_j1 {n8 : Int} (h8 : 0 ≤ n8 ∧ n8 < 4) {l : List Int} {a : Int} {c : List Spot} {k : Int} (hs : SOk ⟨l, a⟩ k) (hc : LenB c) : RG (Stream_RightFence_j1 n8 l a c) n8 k := by
  unfold Stream_RightFence_j1
  rw [CornersFault_eq]
  simp only [Option.bind_some]
  split
  · exact .inr ⟨_, _, rfl, hs, hc⟩
  · rw [w64_in (by omega) (by omega)]
    exact .inl ⟨_, _, rfl, hs⟩
theorem RF_l3 {n8 : Int} (h8 : 0 ≤ n8 ∧ n8 < 4) {c : List Spot} (hc : LenB c) {k : Int} (hk : 0 ≤ k) : ∀ (m : Nat) (l : List Int) (a : Int) (d : List Spot) (i : Int), 0 ≤ i → i + m = c.length → SOk ⟨l, a⟩ (k + m) → d.length = c.length → RG (Stream_RightFence_l3 n8 c l a d i) n8 k := by
  intro m
  induction m with
  | zero =>
    intro l a d i h0 h1 hs hd
    unfold Stream_RightFence_l3
    rw [iter_eq, Stream_RightFence_b3, if_neg (by simp only; omega), map_inr_after]
    exact RF_j1 h8 (hs.less (by omega)) (by unfold LenB at *; simp only; omega)
  | succ m ih =>
    intro l a d i h0 h1 hs hd
    unfold LenB at hc
    obtain ⟨x, hx, _, _⟩ := idx_lt d h0 (by omega)
    unfold Stream_RightFence_l3 at ih ⊢
    rw [iter_eq, Stream_RightFence_b3, if_pos (by simp only; omega)]
    simp only [hx, Option.bind_some]
    obtain ⟨v, s1, e1, p1, q1⟩ := Pick_ok (s := ⟨l, a⟩) (l := [(1 : Int), (100 : Int), (-400 : Int)]) (k := k + m) (hs.less (by omega)) (by simp) (by simp) (by omega)
    simp only [e1, Option.bind_some, after_inl]
    rw [w64_in (x := i + 1) (by omega) (by omega)]
    exact ih s1.L s1.at_ _ (i + 1) (by omega) (by omega) q1 (by simpa using hd)
theorem RF_l2 {n8 : Int} (h8 : 0 ≤ n8 ∧ n8 < 4) {v9 : Int × Stm} (hv : 3 ≤ v9.1 ∧ v9.1 ≤ 6) {k : Int} (hk : 0 ≤ k) : ∀ (m : Nat) (l : List Int) (a : Int) (c : List Spot) (i : Int), 0 ≤ i → i + m = v9.1 → SOk ⟨l, a⟩ (k + 11 + 2 * m) → (c.length : Int) = i → RG (Stream_RightFence_l2 n8 v9 l a c i) n8 k := by
  intro m
  induction m with
  | zero =>
    intro l a c i h0 h1 hs hc
    have hcl : LenB c := by unfold LenB; omega
    unfold Stream_RightFence_l2
    rw [iter_eq, Stream_RightFence_b2, if_neg (by simp only; omega), map_inr_after]
    unfold Stream_RightFence_k2
    obtain ⟨v, s1, e1, p1, q1⟩ := Flip_ok (s := ⟨l, a⟩) (n := 6) (k := k + 10) (hs.less (by omega)) (by omega) (by omega) (by omega)
    simp only [e1, Option.bind_some]
    split
    · exact RF_l3 h8 hcl hk c.length s1.L s1.at_ c 0 (by omega) (by omega) (q1.less (by unfold LenB at hcl; omega)) rfl
    · exact RF_j1 h8 (q1.less (by omega)) hcl
  | succ m ih =>
    intro l a c i h0 h1 hs hc
    unfold Stream_RightFence_l2 at ih ⊢
    rw [iter_eq, Stream_RightFence_b2, if_pos (by simp only; omega)]
    obtain ⟨v, s1, e1, p1, q1⟩ := Place_ok (s := ⟨l, a⟩) (k := k + 11 + 2 * m) (hs.less (by omega)) (by omega)
    simp only [e1, Option.bind_some]
    rw [app_le (by simp; omega)]
    simp only [Option.bind_some, after_inl]
    rw [w64_in (by omega) (by omega)]
    exact ih s1.L s1.at_ _ (i + 1) (by omega) (by omega) q1 (by simp; omega)
theorem RF_l1 {k : Int} (hk : 0 ≤ k) : ∀ (m : Nat) (l : List Int) (a : Int) (n8 : Int), 0 ≤ n8 → n8 + m = 4 → SOk ⟨l, a⟩ (k + 1 + 24 * m) → Gen (Stream_RightFence_l1 l a n8) k (fun f => LenB f.Corners) := by
  intro m
  induction m with
  | zero =>
    intro l a n8 h0 h1 hs
    unfold Stream_RightFence_l1
    rw [iter_eq, Stream_RightFence_b1, if_neg (by simp only; omega), map_inr_after]
    unfold Stream_RightFence_k6 Stream_RightFence_j3 Stream_RightFence_j4 Stream_RightFence_j5 Stream_RightFence_j4 Stream_RightFence_j3
    refine Gen.bind (Next_ok (k := k) (hs.less (by omega)) (by omega) (by omega) (by omega)) (fun v s1 hv hs1 => ?_)
    repeat' split
    all_goals exact Gen.ret (by unfold LenB; simp) hs1
  | succ m ih =>
    intro l a n8 h0 h1 hs
    unfold Stream_RightFence_l1 at ih ⊢
    rw [iter_eq, Stream_RightFence_b1, if_pos (by simp only; omega)]
    obtain ⟨v, s1, e1, p1, q1⟩ := Range_ok (s := ⟨l, a⟩) (a := 3) (b := 6) (k := k + 1 + 24 * m + 23) (hs.less (by omega)) (by omega) (by omega) (by omega) (by omega)
    simp only [e1, Option.bind_some]
    rcases RF_l2 (n8 := n8) ⟨h0, by omega⟩ (v9 := (v, s1)) p1 (k := k + 1 + 24 * m) (by omega) v.toNat s1.L s1.at_ [] 0 (by omega) (by simp only; omega) (q1.less (by omega)) (by simp) with ⟨l', a', e2, q2⟩ | ⟨f, s2, e2, q2, hf⟩
    · simp only [e2, Option.bind_some, after_inl]
      exact ih l' a' (n8 + 1) (by omega) (by omega) q2
    · simp only [e2, Option.bind_some, after_inr]
      exact Gen.ret hf (q2.less (by omega))
theorem RightFence_ok {s : Stm} {k : Int} (hs : SOk s (k + 97)) (hk : 0 ≤ k) : Gen (Stream_RightFence s) k (fun f => LenB f.Corners) := by
  unfold Stream_RightFence
  exact RF_l1 hk 4 s.L s.at_ 0 (by omega) (by omega) (hs.less (by omega))
theorem Fence_ok {s : Stm} {k : Int} (hs : SOk s (k + 107)) (hk : 0 ≤ k) : Gen (Stream_Fence s) k (fun f => f.Corners.length ≤ 11) := by
  unfold Stream_Fence Stream_Fence_j4 Stream_Fence_j3 Stream_Fence_j2 Stream_Fence_j1
  refine Gen.bind (RightFence_ok (k := k + 10) (hs.less (by omega)) (by omega)) (fun f s1 hf hs1 => ?_)
  unfold LenB at hf
  refine Gen.bind (Flip_ok (k := k + 9) (hs1.less (by omega)) (by omega) (by omega) (by omega)) (fun c s2 hc hs2 => ?_)
  simp only
  split
  · refine Gen.bind (Next_ok (k := k + 8) (hs2.less (by omega)) (by omega) (by omega) (by omega)) (fun v s3 hv hs3 => ?_)
    simp only
    split
    · refine Gen.bind (Some_ok (k := k + 7) (hs3.less (by omega)) (by simp) (by simp) (by omega)) (fun d s4 hd hs4 => ?_)
      exact Gen.ret (by simp only; omega) (hs4.less (by omega))
    · split
      · refine Gen.bind (Next_ok (k := k + 7) (hs3.less (by omega)) (by omega) (by omega) (by omega)) (fun i s4 hi hs4 => ?_)
        simp only
        rw [slc_in (by omega) (by omega) (by omega)]
        exact Gen.ret (by simp; omega) (hs4.less (by omega))
      · split
        · unfold slices_Clone_Spot_Spot
          rw [app_le (by simp; omega)]
          simp only [Option.bind_some, List.nil_append]
          refine Gen.bind (Spot_ok (k := k + 3) (hs3.less (by omega)) (by omega)) (fun p s4 hp hs4 => ?_)
          simp only
          rw [app_le (by simp; omega)]
          exact Gen.ret (by simp; omega) (hs4.less (by omega))
        · refine Gen.bind (Place_ok (k := k + 6) (hs3.less (by omega)) (by omega)) (fun p1 s4 hp1 hs4 => ?_)
          refine Gen.bind (Place_ok (k := k + 4) (hs4.less (by omega)) (by omega)) (fun p2 s5 hp2 hs5 => ?_)
          refine Gen.bind (Place_ok (k := k + 2) (hs5.less (by omega)) (by omega)) (fun p3 s6 hp3 hs6 => ?_)
          refine Gen.bind (Place_ok (k := k) (hs6.less (by omega)) (by omega)) (fun p4 s7 hp4 hs7 => ?_)
          exact Gen.ret (by simp) hs7
  · exact Gen.ret (by simp only; omega) (hs2.less (by omega))
theorem isSpot_b (s : Spot) : place_isSpot s = decide (Q_SpotFault s = 0) := by
  by_cases h : SB s
  · rw [(isSpot_eq s).2 h, (SpotFault_eq s).1 h]; rfl
  · rw [(SpotFault_eq s).2 h]
    cases hb : place_isSpot s with
    | false => rfl
    | true => exact absurd ((isSpot_eq s).1 hb) h
theorem SB_of {s : Spot} (h : Q_SpotFault s = 0) : SB s := by
  by_cases k : SB s
  · exact k
  · rw [(SpotFault_eq s).2 k] at h; omega
theorem spotF_v (s : Spot) : Q_SpotFault s = 0 ∨ Q_SpotFault s = 1 := by
  by_cases h : SB s
  · exact .inl ((SpotFault_eq s).1 h)
  · exact .inr ((SpotFault_eq s).2 h)
theorem placedL_eq : L_placed = some true := by
  have hc : place_Cell ⟨0, 0⟩ 1 = some ([51], 0) := by
    unfold place_Cell
    have e : ((!(place_isSpot (⟨0, 0⟩ : Spot))) || base_Out 1 0 15) = false := by
      unfold place_isSpot place_isSpot_j1
      simp only [Out_eq]; decide
    rw [e]
    unfold place_Cell_j1
    rw [if_neg (by simp)]
    unfold place_Cell_l1
    rw [iter_eq, place_Cell_b1, if_pos (by decide), w64_in (by decide) (by decide), w64_in (by decide) (by decide), quo_pos (by decide) (by decide) (by decide)]
    simp only [Option.bind_some]
    rw [app_le (by simp)]
    simp only [Option.bind_some, after_inl]
    rw [iter_eq, place_Cell_b1, if_neg (by decide), map_inr_after]
    decide
  unfold L_placed L_placed_j1
  rw [hc]
  decide
end Go.Beacon
