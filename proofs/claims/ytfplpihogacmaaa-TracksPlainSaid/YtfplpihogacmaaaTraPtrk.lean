/- Tracks: what is drawn, what is wrong with one. No program in sight. -/
import Derived.Test.YtfplpihogacmaaaTraPfar
set_option linter.unusedVariables false
set_option linter.unusedSimpArgs false
namespace Go.Beacon
open Go Go.Eng

def TrkB (many : Int) (xs : List Fix) : Prop := (xs.length : Int) ≤ many ∧ ∀ x ∈ xs, FixB x
theorem RTrack_loop {v3 : Int × Stm} (hv : 0 ≤ v3.1 ∧ v3.1 ≤ 20) : ∀ (m : Nat) (l12 : List Int) (n13 : Int) (l15 : List Fix) (n16 n17 n18 n19 k : Int), n19 + m = v3.1 → 0 ≤ n19 → SOk ⟨l12, n13⟩ (k + 7 * m) → 0 ≤ k → (l15.length : Int) = n19 → (∀ x ∈ l15, FixB x) → (0 ≤ n16 ∧ n16 ≤ 1000 * n19) → Gen (Stream_RightTrack_l1 v3 l12 n13 l15 n16 n17 n18 n19) k (TrkB v3.1)
  | 0, l12, n13, l15, n16, n17, n18, n19, k, hm, h0, hs, hk, hl, hx, hn => by
    unfold Stream_RightTrack_l1
    rw [iter_eq, Stream_RightTrack_b1, if_neg (by simp only; omega), map_inr_after]
    exact Gen.ret ⟨by simp only; omega, hx⟩ (hs.less (by omega))
  | m + 1, l12, n13, l15, n16, n17, n18, n19, k, hm, h0, hs, hk, hl, hx, hn => by
    unfold Stream_RightTrack_l1
    rw [iter_eq, Stream_RightTrack_b1, if_pos (by simp only; omega)]
    obtain ⟨u, s1, e1, p1, q1⟩ := Pick_ok (k := k + 7 * m + 6) (s := ⟨l12, n13⟩) (l := [1, 10, 100, 1000, 1000]) (hs.less (by omega)) (by simp) (by simp) (by omega)
    simp only [e1, Option.bind_some]
    have b1 := pick_le (lo := 1) (hi := 1000) p1 (by decide)
    obtain ⟨c, s2, e2, p2, q2⟩ := Flip_ok (k := k + 7 * m + 5) (s := s1) (n := 6) (q1.less (by omega)) (by omega) (by omega) (by omega)
    simp only [e2, Option.bind_some]
    have j1 : ∀ (s : Stm) (x y : Int), SOk s (k + 7 * m + 3) → Gen ((Stream_RightTrack_j1 l15 n16 n19 (u, s1) s.L s.at_ x y).bind (after (iter fun x : (List Int) × Int × (List Fix) × Int × Int × Int × Int => Stream_RightTrack_b1 v3 x.1 x.2.1 x.2.2.1 x.2.2.2.1 x.2.2.2.2.1 x.2.2.2.2.2.1 x.2.2.2.2.2.2))) k (TrkB v3.1) := by
      intro s x y hs'
      unfold Stream_RightTrack_j1
      obtain ⟨e, s3, e3, p3, q3⟩ := Pick_ok (k := k + 7 * m + 2) (s := ⟨s.L, s.at_⟩) (l := [0, 0, 1, 2, 5]) (hs'.less (by omega)) (by simp) (by simp) (by omega)
      simp only [e3, Option.bind_some]
      obtain ⟨c2, s4, e4, p4, q4⟩ := Flip_ok (k := k + 7 * m + 1) (s := s3) (n := 10) (q3.less (by omega)) (by omega) (by omega) (by omega)
      simp only [e4, Option.bind_some]
      have w1 : w64 (n16 + u) = n16 + u := by rw [w64_in] <;> omega
      have w2 : w64 (n19 + 1) = n19 + 1 := by rw [w64_in] <;> omega
      have fin : ∀ (s : Stm) (z : Int), SOk s (k + 7 * m) → Gen ((Stream_RightTrack_j2 l15 n16 n19 (u, s1) x y (e, s3) s.L s.at_ z).bind (after (iter fun x : (List Int) × Int × (List Fix) × Int × Int × Int × Int => Stream_RightTrack_b1 v3 x.1 x.2.1 x.2.2.1 x.2.2.2.1 x.2.2.2.2.1 x.2.2.2.2.2.1 x.2.2.2.2.2.2))) k (TrkB v3.1) := by
        intro s z hs''
        unfold Stream_RightTrack_j2
        simp only
        rw [w1, w2, app_le (by simp; omega)]
        simp only [Option.bind_some, after_inl]
        refine RTrack_loop hv m s.L s.at_ _ (n16 + u) x y (n19 + 1) k (by omega) (by omega) hs'' hk (by simp; omega) ?_ (by omega)
        intro w hw
        rcases List.mem_append.1 hw with h | h
        · exact hx w h
        · simp only [List.mem_singleton] at h
          subst h
          unfold FixB; simp only; omega
      split
      · obtain ⟨z, s5, e5, p5, q5⟩ := Pick_ok (k := k + 7 * m) (s := s4) (l := [5000, -10000, 300]) (q4.less (by omega)) (by simp) (by simp) (by omega)
        simp only [e5, Option.bind_some]
        exact fin s5 z q5
      · exact fin s4 x (q4.less (by omega))
    split
    · obtain ⟨z, s5, e5, p5, q5⟩ := Place_ok (k := k + 7 * m + 3) (s := s2) (q2.less (by omega)) (by omega)
      simp only [e5, Option.bind_some]
      exact j1 s5 _ _ q5
    · obtain ⟨z, s5, e5, p5, q5⟩ := Range_ok (k := k + 7 * m + 4) (s := s2) (a := -2) (b := 2) (q2.less (by omega)) (by omega) (by omega) (by omega) (by omega)
      simp only [e5, Option.bind_some]
      obtain ⟨z2, s6, e6, p6, q6⟩ := Range_ok (k := k + 7 * m + 3) (s := s5) (a := -2) (b := 2) (q5.less (by omega)) (by omega) (by omega) (by omega) (by omega)
      simp only [e6, Option.bind_some]
      exact j1 s6 _ _ q6
theorem RightTrack_ok {s : Stm} {many k : Int} (hs : SOk s (k + 3 + 7 * many)) (hm : 0 ≤ many ∧ many ≤ 20) (hk : 0 ≤ k) : Gen (Stream_RightTrack s many) k (TrkB many) := by
  unfold Stream_RightTrack
  refine Gen.bind (Place_ok (k := k + 1 + 7 * many) (hs.less (by omega)) (by omega)) (fun p s1 hp hs1 => ?_)
  refine Gen.bind (Range_ok (k := k + 7 * many) (hs1.less (by omega)) (by omega) (by omega) (by omega) (by omega)) (fun n s2 hn hs2 => ?_)
  refine Gen.mono (RTrack_loop (v3 := (n, s2)) ⟨hn.1, by simp only; omega⟩ n.toNat s2.L s2.at_ [] 0 p.X p.Y 0 k (by simp only; omega) (by omega) (hs2.less (by omega)) hk (by simp) (by simp) (by omega)) (Int.le_refl k) ?_
  rintro v ⟨h1, h2⟩
  exact ⟨by simp only at h1; omega, h2⟩
theorem Track_j1_ok {xs : List Fix} {s1 : Stm} {l3 : List Int} {n4 : Int} {c : Bool} {many k : Int} (hs : SOk ⟨l3, n4⟩ (k + 4)) (hk : 0 ≤ k) (hx : TrkB many xs) (hm : many ≤ 20) (hc : c = true → 0 < xs.length) : Gen (Stream_Track_j1 (xs, s1) l3 n4 c) k (TrkB many) := by
  unfold Stream_Track_j1 Stream_Track_j5 Stream_Track_j4 Stream_Track_j3 Stream_Track_j2
  have hx1 := hx.1
  split
  · rename_i hcc
    have hpos := hc hcc
    refine Gen.bind (Next_ok (k := k + 3) (hs.less (by omega)) (by simp only; omega) (by simp only; omega) (by omega)) (fun i s2 hi hs2 => ?_)
    obtain ⟨y, hy, hym, _⟩ := idx_lt xs hi.1 hi.2
    have hyB := hx.2 y hym
    unfold FixB at hyB
    simp only [hy, Option.bind_some]
    refine Gen.bind (Next_ok (k := k + 2) (hs2.less (by omega)) (by omega) (by omega) (by omega)) (fun v s3 hv hs3 => ?_)
    simp only
    split
    · refine Gen.bind (Some_ok (k := k) (hs3.less (by omega)) (by simp) (by simp) (by omega)) (fun d s4 hd hs4 => ?_)
      exact Gen.ret ⟨by simp only [List.length_set]; exact hx1, inset hx.2 (by unfold FixB; simp only; omega)⟩ hs4
    · split
      · refine Gen.bind (Odd_ok (k := k) (hs3.less (by omega)) (by omega) (by omega) (by omega) (by omega)) (fun d s4 hd hs4 => ?_)
        exact Gen.ret ⟨by simp only [List.length_set]; exact hx1, inset hx.2 (by unfold FixB; simp only; omega)⟩ hs4
      · split
        · refine Gen.bind (Odd_ok (k := k) (hs3.less (by omega)) (by omega) (by omega) (by omega) (by omega)) (fun d s4 hd hs4 => ?_)
          exact Gen.ret ⟨by simp only [List.length_set]; exact hx1, inset hx.2 (by unfold FixB; simp only; omega)⟩ hs4
        · refine Gen.bind (Odd_ok (k := k) (hs3.less (by omega)) (by omega) (by omega) (by omega) (by omega)) (fun d s4 hd hs4 => ?_)
          exact Gen.ret ⟨by simp only [List.length_set]; exact hx1, inset hx.2 (by unfold FixB; simp only; omega)⟩ hs4
  · exact Gen.ret hx (hs.less (by omega))
theorem Track_ok {s : Stm} {many k : Int} (hs : SOk s (k + 8 + 7 * many)) (hm : 0 ≤ many ∧ many ≤ 20) (hk : 0 ≤ k) : Gen (Stream_Track s many) k (TrkB many) := by
  unfold Stream_Track
  refine Gen.bind (RightTrack_ok (k := k + 5) (hs.less (by omega)) hm (by omega)) (fun xs s1 hx hs1 => ?_)
  simp only
  split
  · rename_i hpos
    refine Gen.bind (Flip_ok (k := k + 4) (hs1.less (by omega)) (by omega) (by omega) (by omega)) (fun c s2 hc hs2 => ?_)
    exact Track_j1_ok hs2 hk hx hm.2 (fun _ => by omega)
  · exact Track_j1_ok (hs1.less (by omega)) hk hx hm.2 (fun h => by simp at h)
/-! what is wrong with a track -/
theorem track_eq (xs : List Fix) (hB : ∀ x ∈ xs, FixB x) (hl : (xs.length : Int) ≤ 100000) : ∃ e, place_trackFault xs = some e ∧ Q_TrackFault xs = some e ∧ (e = 0 → chkX xs = 0) := by
  unfold place_trackFault Q_TrackFault
  rw [CheckFixes_eq, FixesFault_eq xs hB]
  simp only [Option.bind_some]
  by_cases h : chkX xs = 0
  · simp only [h, ne_eq, not_true_eq_false, if_false]
    have hc : ∃ b, slices_ContainsFunc_Fix_Fix xs (fun y0 => place_trackFault_1x y0 xs) = some b := by
      cases xs with
      | nil => exact ⟨_, gContainsFunc_eq [] _ (fun _ => false) (by simp) (by simp)⟩
      | cons x r =>
        refine ⟨_, gContainsFunc_eq (x :: r) _ (fun y => decide (y.Device ≠ x.Device)) (fun y _ => ?_) (by omega)⟩
        unfold place_trackFault_1x
        rfl
    obtain ⟨b, hb⟩ := hc
    have hq : slices_ContainsFunc_Fix_Fix xs (fun y0 => Q_TrackFault_1x y0 xs) = some b := hb
    rw [hb, hq]
    simp only [Option.bind_some]
    cases b
    · exact ⟨_, rfl, rfl, fun _ => trivial⟩
    · exact ⟨_, rfl, rfl, fun _ => trivial⟩
  · simp only [h, ne_eq, not_false_eq_true, if_true]
    exact ⟨_, rfl, rfl, fun k => absurd k h⟩
end Go.Beacon
