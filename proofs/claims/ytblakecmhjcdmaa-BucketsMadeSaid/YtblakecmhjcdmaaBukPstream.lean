/- Plain facts of the streams that make inputs: each ends, and what it hands out is within bounds. No program in sight. -/
import Derived.Test.YtblakecmhjcdmaaBukP
import Derived.Test.YtblakecmhjcdmaaPc
set_option linter.unusedVariables false
set_option linter.unusedSimpArgs false
namespace Go.Beacon
open Go Go.Eng

abbrev Stm := Fleetmake_Stream
/-- At least k more numbers can be drawn. -/
def SOk (s : Stm) (k : Int) : Prop := 0 ≤ s.at_ ∧ s.at_ + k ≤ 4611686018427387904
theorem SOk.less {s : Stm} {k k' : Int} (h : SOk s k) (hk : k' ≤ k) : SOk s k' := ⟨h.1, by have := h.2; omega⟩
def Gen {α : Type} (m : Option (α × Stm)) (k : Int) (P : α → Prop) : Prop := ∃ v s', m = some (v, s') ∧ P v ∧ SOk s' k
theorem Gen.bind {α β : Type} {m : Option (α × Stm)} {k k' : Int} {P : α → Prop} {Q : β → Prop} {f : α × Stm → Option (β × Stm)} (h : Gen m k P) (hf : ∀ v s', P v → SOk s' k → Gen (f (v, s')) k' Q) : Gen (m.bind f) k' Q := by
  obtain ⟨v, s', rfl, h1, h2⟩ := h
  exact hf v s' h1 h2
theorem Gen.use {α β : Type} {m : Option (α × Stm)} {k : Int} {P : α → Prop} {r : β} {f : α × Stm → Option β} (h : Gen m k P) (hf : ∀ v s', P v → SOk s' k → f (v, s') = some r) : m.bind f = some r := by
  obtain ⟨v, s', rfl, h1, h2⟩ := h
  exact hf v s' h1 h2
theorem Gen.ret {α : Type} {v : α} {s : Stm} {k : Int} {P : α → Prop} (h1 : P v) (h2 : SOk s k) : Gen (some (v, s)) k P := ⟨v, s, rfl, h1, h2⟩
theorem Gen.mono {α : Type} {m : Option (α × Stm)} {k k' : Int} {P Q : α → Prop} (h : Gen m k P) (hk : k' ≤ k) (hp : ∀ v, P v → Q v) : Gen m k' Q := by
  obtain ⟨v, s', e, h1, h2⟩ := h
  exact ⟨v, s', e, hp v h1, h2.less hk⟩

theorem Below_ok (x : Int) {n : Int} (h1 : 1 ≤ n) (h2 : n ≤ 4611686018427387904) : ∃ v, Below x n = some v ∧ 0 ≤ v ∧ v < n := by
  unfold Below Below_j1
  rw [if_neg (by omega), rem_ne (by omega)]
  have a1 := Int.lt_tmod_of_pos x (show 0 < n by omega)
  have a2 := Int.tmod_lt_of_pos x (show 0 < n by omega)
  simp only [Option.bind_some]
  split
  · exact ⟨_, rfl, by rw [w64_in] <;> omega, by rw [w64_in] <;> omega⟩
  · exact ⟨_, rfl, by omega, by omega⟩

theorem Next_ok {s : Stm} {n k : Int} (hs : SOk s (k + 1)) (h1 : 1 ≤ n) (h2 : n ≤ 4611686018427387904) (hk : 0 ≤ k) : Gen (Stream_Next s n) k (fun v => 0 ≤ v ∧ v < n) := by
  obtain ⟨a1, a2⟩ := hs
  have e1 : w64 (s.at_ + 1) = s.at_ + 1 := by rw [w64_in] <;> omega
  have e2 : w64 (s.at_ + 1 - 1) = s.at_ := by rw [w64_in] <;> omega
  unfold Stream_Next
  split
  · obtain ⟨v, hv, h3, h4⟩ := Below_ok (w64 (w64 (s.at_ + 1) * 7919)) h1 h2
    rw [hv]
    exact Gen.ret ⟨h3, h4⟩ ⟨by show 0 ≤ w64 (s.at_ + 1); omega, by show w64 (s.at_ + 1) + k ≤ _; omega⟩
  · rename_i hl
    have hl' : (0 : Int) < s.L.length := by omega
    rw [e1, e2, rem_pos hl' a1, quo_ne (by omega)]
    simp only [Option.bind_some]
    obtain ⟨x, hx, _, _⟩ := idx_lt s.L (i := s.at_ % s.L.length) (Int.emod_nonneg _ (by omega)) (Int.emod_lt_of_pos _ hl')
    rw [hx]
    simp only [Option.bind_some]
    obtain ⟨u, hu, _, _⟩ := Below_ok x (n := 1073741824) (by omega) (by omega)
    rw [hu]
    simp only [Option.bind_some]
    obtain ⟨v, hv, h3, h4⟩ := Below_ok (w64 (u + w64 (w64 (s.at_.tdiv s.L.length) * w64 (7919 + s.at_ % s.L.length)))) h1 h2
    rw [hv]
    exact Gen.ret ⟨h3, h4⟩ ⟨by simp only; omega, by simp only; omega⟩

theorem Pick_ok {s : Stm} {l : List Int} {k : Int} (hs : SOk s (k + 1)) (h1 : l ≠ []) (h2 : l.length ≤ 1000) (hk : 0 ≤ k) : Gen (Stream_Pick s l) k (fun v => v ∈ l) := by
  unfold Stream_Pick
  have hl : 0 < l.length := List.length_pos_iff.2 h1
  refine Gen.bind (Next_ok hs (by omega) (by omega) hk) (fun v s' hv hs' => ?_)
  obtain ⟨x, hx, hm, _⟩ := idx_lt l hv.1 hv.2
  simp only [hx, Option.bind_some]
  exact Gen.ret hm hs'
theorem Range_ok {s : Stm} {a b k : Int} (hs : SOk s (k + 1)) (hab : a ≤ b) (ha : -1152921504606846976 ≤ a) (hb : b ≤ 1152921504606846976) (hk : 0 ≤ k) : Gen (Stream_Range s a b) k (fun v => a ≤ v ∧ v ≤ b) := by
  unfold Stream_Range
  have e1 : w64 (b - a) = b - a := by rw [w64_in] <;> omega
  have e2 : w64 (b - a + 1) = b - a + 1 := by rw [w64_in] <;> omega
  rw [if_neg (by omega), e1, e2]
  refine Gen.bind (Next_ok hs (by omega) (by omega) hk) (fun v s' hv hs' => ?_)
  refine Gen.ret ?_ hs'
  simp only
  rw [w64_in] <;> omega
theorem Flip_ok {s : Stm} {n k : Int} (hs : SOk s (k + 1)) (h1 : 1 ≤ n) (h2 : n ≤ 4611686018427387904) (hk : 0 ≤ k) : Gen (Stream_Flip s n) k (fun _ => True) := by
  unfold Stream_Flip
  exact Gen.bind (Next_ok hs h1 h2 hk) (fun v s' hv hs' => Gen.ret trivial hs')
theorem pick_le {l : List Int} {v lo hi : Int} (h : v ∈ l) (hl : l.all (fun x => decide (lo ≤ x ∧ x ≤ hi)) = true) : lo ≤ v ∧ v ≤ hi := by
  rw [List.all_eq_true] at hl
  simpa using hl v h
theorem Some_ok {s : Stm} {l : List Str} {k : Int} (hs : SOk s (k + 1)) (h1 : l ≠ []) (h2 : l.length ≤ 1000) (hk : 0 ≤ k) : Gen (Stream_Some s l) k (fun v => v ∈ l) := by
  unfold Stream_Some
  have hl : 0 < l.length := List.length_pos_iff.2 h1
  refine Gen.bind (Next_ok hs (by omega) (by omega) hk) (fun v s' hv hs' => ?_)
  obtain ⟨x, hx, hm, _⟩ := idx_lt l hv.1 hv.2
  simp only [hx, Option.bind_some]
  exact Gen.ret hm hs'
theorem Odd_ok {s : Stm} {a b k : Int} (hs : SOk s (k + 2)) (hab : a ≤ b) (ha : -1099511627776 ≤ a) (hb : b ≤ 1099511627776) (hk : 0 ≤ k) : Gen (Stream_Odd s a b) k (fun v => -1099511627777 ≤ v ∧ v ≤ 1099511627777) := by
  unfold Stream_Odd
  refine Gen.bind (Flip_ok (k := k + 1) (hs.less (by omega)) (by omega) (by omega) (by omega)) (fun v s' hv hs' => ?_)
  simp only
  split
  · refine Gen.bind (Pick_ok hs' (by simp) (by simp) hk) (fun v s' hv hs' => Gen.ret ?_ hs')
    have e1 : w64 (a - 1) = a - 1 := by rw [w64_in] <;> omega
    have e2 : w64 (b + 1) = b + 1 := by rw [w64_in] <;> omega
    rw [e1, e2] at hv
    simp only [List.mem_cons, List.not_mem_nil, or_false] at hv
    simp only; omega
  · refine Gen.bind (Range_ok hs' hab (by omega) (by omega) hk) (fun v s' hv hs' => Gen.ret ?_ hs')
    simp only; omega
def SampB (x : Sample) : Prop := (-4398046511104 ≤ x.At ∧ x.At ≤ 4398046511104) ∧ (-4398046511104 ≤ x.Value ∧ x.Value ≤ 4398046511104)
theorem RightSeries_loop (a2 : Int) (v1 : Int × Stm) (ha : -1000 ≤ a2 ∧ a2 ≤ 1000) (hv : 0 ≤ v1.1 ∧ v1.1 ≤ 20) : ∀ (m : Nat) (l8 : List Int) (n9 : Int) (l11 : List Sample) (n12 n13 k : Int), n13 + m = v1.1 → 0 ≤ n13 → SOk ⟨l8, n9⟩ (k + 2 * m) → 0 ≤ k →
    (l11.length : Int) = n13 → (∀ x ∈ l11, SampB x) → (0 ≤ n12 ∧ n12 ≤ 1000 * n13) → Gen (Stream_RightSeries_l1 a2 v1 l8 n9 l11 n12 n13) k (fun xs => (xs.length : Int) ≤ 20 ∧ ∀ x ∈ xs, SampB x)
  | 0, l8, n9, l11, n12, n13, k, hm, h0, hs, hk, hl, hx, hn => by
    unfold Stream_RightSeries_l1
    rw [iter_eq]
    unfold Stream_RightSeries_b1
    rw [if_neg (by simp only; omega), map_inr_after]
    exact Gen.ret ⟨by show ((l11.length : Nat) : Int) ≤ 20; omega, hx⟩ (hs.less (by omega))
  | m + 1, l8, n9, l11, n12, n13, k, hm, h0, hs, hk, hl, hx, hn => by
    unfold Stream_RightSeries_l1
    rw [iter_eq]
    unfold Stream_RightSeries_b1
    rw [if_pos (by simp only; omega)]
    obtain ⟨u, s1, e1, p1, q1⟩ := Pick_ok (k := k + 2 * m + 1) (s := ⟨l8, n9⟩) (l := [1, 1, 2, 5, 10, 10, 40, 127, 1000]) (hs.less (by omega)) (by simp) (by simp) (by omega)
    simp only [e1, Option.bind_some]
    obtain ⟨t, s2, e2, p2, q2⟩ := Pick_ok (k := k + 2 * m) (s := s1) (l := [0, 1, 2, 5, 7, 9, -3, -70, 100, 1000, 5]) (q1.less (by omega)) (by simp) (by simp) (by omega)
    simp only [e2, Option.bind_some]
    have b1 := pick_le (lo := 1) (hi := 1000) p1 (by decide)
    have b2 := pick_le (lo := -70) (hi := 1000) p2 (by decide)
    have w1 : w64 (n12 + u) = n12 + u := by rw [w64_in] <;> omega
    have w2 : w64 (n13 + 1) = n13 + 1 := by rw [w64_in] <;> omega
    rw [w1, w2, app_le (by simp; omega)]
    simp only [Option.bind_some, after_inl]
    refine RightSeries_loop a2 v1 ha hv m s2.L s2.at_ _ (n12 + u) (n13 + 1) k (by omega) (by omega) q2 hk (by simp; omega) ?_ (by omega)
    intro x hxm
    rcases List.mem_append.1 hxm with h | h
    · exact hx x h
    · simp only [List.mem_singleton] at h
      subst h
      exact ⟨by simp only; omega, by simp only; omega⟩
theorem RightSeries_ok {s : Stm} {most low k : Int} (hs : SOk s (k + 41)) (hm : 0 ≤ most ∧ most ≤ 20) (hl : -1000 ≤ low ∧ low ≤ 1000) (hk : 0 ≤ k) : Gen (Stream_RightSeries s most low) k (fun xs => (xs.length : Int) ≤ 20 ∧ ∀ x ∈ xs, SampB x) := by
  unfold Stream_RightSeries
  refine Gen.bind (Range_ok (k := k + 40) (hs.less (by omega)) (by omega) (by omega) (by omega) (by omega)) (fun v s' hv hs' => ?_)
  exact RightSeries_loop low (v, s') hl ⟨hv.1, by have := hv.2; omega⟩ v.toNat s'.L s'.at_ [] 0 0 k (by simp only; omega) (by omega) (hs'.less (by omega)) hk rfl (by simp) (by omega)
theorem mem_set_B {xs : List Sample} {i : Nat} {y : Sample} (h : ∀ x ∈ xs, SampB x) (hy : SampB y) : ∀ x ∈ xs.set i y, SampB x := by
  intro x hx
  rcases List.mem_or_eq_of_mem_set hx with h1 | h1
  · exact h x h1
  · rw [h1]; exact hy
theorem Series_tail {l : List Int} {n : Int} {xs : List Sample} {k : Int} (hs : SOk ⟨l, n⟩ (k + 3)) (hk : 0 ≤ k) (hx : (xs.length : Int) ≤ 20 ∧ ∀ x ∈ xs, SampB x) : Gen (Stream_Series_j2 l n xs) k (fun xs => (xs.length : Int) ≤ 20 ∧ ∀ x ∈ xs, SampB x) := by
  unfold Stream_Series_j2
  split
  · rename_i hpos
    refine Gen.bind (Flip_ok (k := k + 2) (hs.less (by omega)) (by omega) (by omega) (by omega)) (fun v s' hv hs' => ?_)
    unfold Stream_Series_j6 Stream_Series_j7
    simp only
    split
    · have w1 : w64 ((xs.length : Int) - 1) = xs.length - 1 := by rw [w64_in] <;> omega
      obtain ⟨y, hy, hym, _⟩ := idx_lt xs (i := (xs.length : Int) - 1) (by omega) (by omega)
      rw [w1, hy]
      simp only [Option.bind_some]
      refine Gen.bind (Pick_ok (k := k + 1) (hs'.less (by omega)) (by simp) (by simp) (by omega)) (fun u s1 hu hs1 => ?_)
      refine Gen.bind (Pick_ok (k := k) (hs1.less (by omega)) (by simp) (by simp) (by omega)) (fun t s2 ht hs2 => ?_)
      have b1 := pick_le (lo := 0) (hi := 345686399999) hu (by decide)
      have b2 := pick_le (lo := -1000000000) (hi := 1000000000) ht (by decide)
      have hyB := hx.2 y hym
      refine Gen.ret ⟨by simp only [List.length_set]; exact hx.1, ?_⟩ hs2
      refine mem_set_B (mem_set_B hx.2 ⟨by simp only; omega, hyB.2⟩) ⟨by simp only; omega, by simp only; omega⟩
    · exact Gen.ret hx (hs'.less (by omega))
  · unfold Stream_Series_j6 Stream_Series_j7
    rw [if_neg (by simp)]
    exact Gen.ret hx (hs.less (by omega))
theorem Series_ok {s : Stm} {most k : Int} (hs : SOk s (k + 50)) (hm : 0 ≤ most ∧ most ≤ 20) (hk : 0 ≤ k) : Gen (Stream_Series s most) k (fun xs => (xs.length : Int) ≤ 20 ∧ ∀ x ∈ xs, SampB x) := by
  unfold Stream_Series
  refine Gen.bind (Pick_ok (k := k + 49) (hs.less (by omega)) (by simp) (by simp) (by omega)) (fun low s1 hlow hs1 => ?_)
  have b1 := pick_le (lo := -100) (hi := 0) hlow (by decide)
  refine Gen.bind (RightSeries_ok (k := k + 8) (hs1.less (by omega)) hm (by simp only; omega) (by omega)) (fun xs s2 hx hs2 => ?_)
  simp only
  split
  · rename_i hpos
    refine Gen.bind (Flip_ok (k := k + 7) (hs2.less (by omega)) (by omega) (by omega) (by omega)) (fun v s3 hv hs3 => ?_)
    unfold Stream_Series_j1
    simp only
    split
    · refine Gen.bind (Next_ok (k := k + 6) (hs3.less (by omega)) (by omega) (by omega) (by omega)) (fun i s4 hi hs4 => ?_)
      obtain ⟨y, hy, hym, _⟩ := idx_lt xs hi.1 hi.2
      have hyB := hx.2 y hym
      simp only [hy, Option.bind_some]
      refine Gen.bind (Next_ok (k := k + 5) (hs4.less (by omega)) (by omega) (by omega) (by omega)) (fun c s5 hc hs5 => ?_)
      simp only
      unfold Stream_Series_j3 Stream_Series_j4 Stream_Series_j5
      split
      · refine Gen.bind (Some_ok (k := k + 4) (hs5.less (by omega)) (by simp) (by simp) (by omega)) (fun d s6 hd hs6 => ?_)
        exact Series_tail (hs6.less (by omega)) hk ⟨by simp only [List.length_set]; exact hx.1, mem_set_B hx.2 ⟨hyB.1, hyB.2⟩⟩
      · split
        · refine Gen.bind (Some_ok (k := k + 4) (hs5.less (by omega)) (by simp) (by simp) (by omega)) (fun d s6 hd hs6 => ?_)
          exact Series_tail (hs6.less (by omega)) hk ⟨by simp only [List.length_set]; exact hx.1, mem_set_B hx.2 ⟨hyB.1, hyB.2⟩⟩
        · split
          · refine Gen.bind (Odd_ok (k := k + 3) (hs5.less (by omega)) (by omega) (by omega) (by omega) (by omega)) (fun d s6 hd hs6 => ?_)
            exact Series_tail (hs6.less (by omega)) hk ⟨by simp only [List.length_set]; exact hx.1, mem_set_B hx.2 ⟨by simp only; omega, hyB.2⟩⟩
          · refine Gen.bind (Odd_ok (k := k + 3) (hs5.less (by omega)) (by omega) (by omega) (by omega) (by omega)) (fun d s6 hd hs6 => ?_)
            exact Series_tail (hs6.less (by omega)) hk ⟨by simp only [List.length_set]; exact hx.1, mem_set_B hx.2 ⟨hyB.1, by simp only; omega⟩⟩
    · exact Series_tail (hs3.less (by omega)) hk hx
  · unfold Stream_Series_j1
    rw [if_neg (by simp)]
    exact Series_tail (hs2.less (by omega)) hk hx
def WinB (w : Window) : Prop := (-1099511627777 ≤ w.From ∧ w.From ≤ 1099511627777) ∧ (-1099511627777 ≤ w.To ∧ w.To ≤ 1099511627777)
theorem Frame_j3_ok {l : List Int} {n a b k : Int} (hs : SOk ⟨l, n⟩ (k + 3)) (hk : 0 ≤ k) (ha : -1099511627777 ≤ a ∧ a ≤ 1099511627777) (hb : -1099511627777 ≤ b ∧ b ≤ 1099511627777) : Gen (Stream_Frame_j3 l n a b) k WinB := by
  unfold Stream_Frame_j3 Stream_Frame_j4
  refine Gen.bind (Flip_ok (k := k + 2) (hs.less (by omega)) (by omega) (by omega) (by omega)) (fun v s1 hv hs1 => ?_)
  simp only
  split
  · refine Gen.bind (Pick_ok (k := k + 1) (hs1.less (by omega)) (by simp) (by simp) (by omega)) (fun u s2 hu hs2 => ?_)
    refine Gen.bind (Pick_ok (k := k) (hs2.less (by omega)) (by simp) (by simp) (by omega)) (fun t s3 ht hs3 => ?_)
    have b1 := pick_le (lo := 0) (hi := 5) hu (by decide)
    have b2 := pick_le (lo := 0) (hi := 345686400001) ht (by decide)
    exact Gen.ret ⟨by simp only; omega, by simp only; omega⟩ hs3
  · exact Gen.ret ⟨ha, hb⟩ (hs1.less (by omega))
theorem Frame_j2_ok {v3 : Int × Stm} {l : List Int} {n a k : Int} (hs : SOk ⟨l, n⟩ (k + 8)) (hk : 0 ≤ k) (ha : -1099511627777 ≤ a ∧ a ≤ 1099511627777) (hb : -1099511627777 ≤ v3.1 ∧ v3.1 ≤ 1099511627777) : Gen (Stream_Frame_j2 v3 l n a) k WinB := by
  unfold Stream_Frame_j2
  refine Gen.bind (Flip_ok (k := k + 7) (hs.less (by omega)) (by omega) (by omega) (by omega)) (fun v s1 hv hs1 => ?_)
  simp only
  split
  · refine Gen.bind (Odd_ok (k := k + 5) (hs1.less (by omega)) (by omega) (by omega) (by omega) (by omega)) (fun u s2 hu hs2 => ?_)
    refine Gen.bind (Odd_ok (k := k + 3) (hs2.less (by omega)) (by omega) (by omega) (by omega) (by omega)) (fun t s3 ht hs3 => ?_)
    exact Frame_j3_ok hs3 hk hu ht
  · exact Frame_j3_ok (hs1.less (by omega)) hk ha hb
theorem Frame_ok {s : Stm} {k : Int} (hs : SOk s (k + 11)) (hk : 0 ≤ k) : Gen (Stream_Frame s) k WinB := by
  unfold Stream_Frame
  refine Gen.bind (Pick_ok (k := k + 10) (hs.less (by omega)) (by simp) (by simp) (by omega)) (fun u s1 hu hs1 => ?_)
  refine Gen.bind (Pick_ok (k := k + 9) (hs1.less (by omega)) (by simp) (by simp) (by omega)) (fun t s2 ht hs2 => ?_)
  have b1 := pick_le (lo := 0) (hi := 50) hu (by decide)
  have b2 := pick_le (lo := 10) (hi := 3000) ht (by decide)
  have key : ∀ {l : List Int} {n : Int} (c : Bool), SOk ⟨l, n⟩ (k + 8) → Gen (Stream_Frame_j1 (u, s1) (t, s2) l n c) k WinB := by
    intro l n c hs3
    unfold Stream_Frame_j1
    split
    · exact Frame_j2_ok hs3 hk (by omega) (by simp only; omega)
    · exact Frame_j2_ok hs3 hk (by simp only; omega) (by simp only; omega)
  simp only
  split
  · exact Gen.bind (Flip_ok (k := k + 8) (hs2.less (by omega)) (by omega) (by omega) (by omega)) (fun v s3 hv hs3 => key _ hs3)
  · exact key _ (hs2.less (by omega))
end Go.Beacon
