/- Visits, stays and the length of a track; the law TracksVisit as a plain statement. No program in sight. -/
import Derived.Test.YtkmbppeelkbjoaaTrvPtrk
set_option linter.unusedVariables false
set_option linter.unusedSimpArgs false
namespace Go.Beacon
open Go Go.Eng

theorem idx_lastC {α : Type} (L : List α) (v : α) (h : L.length ≤ 1000000) : idx (L ++ [v]) (w64 (((L ++ [v]).length : Int) - 1)) = some v := by
  rw [w64_in (by simp <;> omega) (by simp <;> omega)]
  unfold idx
  rw [if_pos (by simp <;> omega)]
  simp
theorem set_lastC {α : Type} (L : List α) (v u : α) (h : L.length ≤ 1000000) : (L ++ [v]).set (w64 (((L ++ [v]).length : Int) - 1)).toNat u = L ++ [u] := by
  rw [w64_in (by simp <;> omega) (by simp <;> omega)]
  have : (((L ++ [v]).length : Int) - 1).toNat = L.length := by simp
  rw [this]; simp
/-- The last visit goes on. -/
def opnV (l : List Visit) : Bool := match l.getLast? with
  | some v => decide (v.To < 0)
  | none => false
theorem opnV_c (L : List Visit) (v : Visit) : opnV (L ++ [v]) = decide (v.To < 0) := by unfold opnV; simp
theorem concat_or {α : Type} (l : List α) : l = [] ∨ ∃ L v, l = L ++ [v] := by
  rcases List.eq_nil_or_concat l with h | ⟨L, v, h⟩
  · exact .inl h
  · exact .inr ⟨L, v, by simpa using h⟩
theorem Visits_loop {f : FenceS} (hr : Right f.Corners) {xs : List Fix} (hx : ∀ x ∈ xs, FixR x) (hl : xs.length ≤ 2000) : ∀ (m i : Nat) (l : List Visit), i + m = xs.length → l.length ≤ i → ∃ r, r.length ≤ 2000 ∧ place_Visits_l1 f xs l i = some (r, 0) ∧ Q_VisitsOf_l1 f xs l (opnV l) i = some r := by
  intro m
  induction m with
  | zero =>
    intro i l hi hli
    obtain rfl : i = xs.length := by omega
    refine ⟨l, by omega, ?_, ?_⟩
    · unfold place_Visits_l1
      rw [iter_eq, place_Visits_b1, if_neg (by simp only; omega), map_inr_after]
    · unfold Q_VisitsOf_l1
      rw [iter_eq, Q_VisitsOf_b1, if_neg (by simp only; omega), map_inr_after]
  | succ m ih =>
    intro i l hi hli
    obtain ⟨x, x1, x2, _⟩ := idx_lt xs (i := (i : Int)) (by omega) (by omega)
    obtain ⟨v, v1, v2⟩ := surely_eq hr (hx x x2)
    have hw : w64 ((i : Int) + 1) = ((i + 1 : Nat) : Int) := by rw [w64_in (by omega) (by omega)]; simp
    have hAt : 0 ≤ x.At := (hx x x2).2.2.1
    have key : ∀ l', l'.length ≤ i + 1 → place_Visits_b1 f xs l i = some (.inl (l', ((i + 1 : Nat) : Int))) → Q_VisitsOf_b1 f xs l (opnV l) i = some (.inl (l', opnV l', ((i + 1 : Nat) : Int))) → ∃ r, r.length ≤ 2000 ∧ place_Visits_l1 f xs l i = some (r, 0) ∧ Q_VisitsOf_l1 f xs l (opnV l) i = some r := by
      intro l' h1 h2 h3
      obtain ⟨r, r0, r1, r2⟩ := ih (i + 1) l' (by omega) h1
      refine ⟨r, r0, ?_, ?_⟩
      · unfold place_Visits_l1 at r1 ⊢
        rw [iter_eq, h2]; exact r1
      · unfold Q_VisitsOf_l1 at r2 ⊢
        rw [iter_eq, h3]; exact r2
    have eb : place_Visits_b1 f xs l i = place_Visits_j1 f l i x (opnV l) := by
      unfold place_Visits_b1
      rw [if_pos (by omega), x1]
      simp only [Option.bind_some]
      rcases concat_or l with rfl | ⟨L, u, rfl⟩
      · rfl
      · rw [if_pos (by simp <;> omega), idx_lastC _ _ (by simp at hli; omega), opnV_c]; rfl
    have eq : Q_VisitsOf_b1 f xs l (opnV l) i = Q_VisitsOf_j1 l (opnV l) i x v (decide (v = 2) && !opnV l) := by
      unfold Q_VisitsOf_b1
      rw [if_pos (by omega), x1]
      simp only [Option.bind_some, v2]
    rw [eb, eq] at key
    unfold place_Visits_j1 place_Visits_j3 place_Visits_j5 place_Visits_j4 place_Visits_j2 Q_VisitsOf_j1 Q_VisitsOf_j3 Q_VisitsOf_j4 Q_VisitsOf_j2 at key
    simp only [v1, Option.bind_some, hw] at key
    by_cases c2 : v = 2
    · simp only [c2, decide_true, Bool.true_and, if_true] at key
      cases ho : opnV l with
      | true =>
        rw [ho] at key
        refine key l (by omega) (by simp) (by simp [ho])
      | false =>
        rw [ho] at key
        refine key (l ++ [⟨x.At, -1⟩]) (by simp; omega) ?_ ?_
        · rw [app_le (by simp; omega)]; simp
        · rw [app_le (by simp; omega), opnV_c]; simp
    · simp only [c2, decide_false, Bool.false_and, if_false, Bool.false_eq_true] at key
      by_cases c0 : v = 0
      · simp only [c0, decide_true, Bool.true_and, if_true] at key
        cases ho : opnV l with
        | true =>
          rw [ho] at key
          rcases concat_or l with rfl | ⟨L, u, rfl⟩
          · simp [opnV] at ho
          · have hL : L.length ≤ 1000000 := by simp at hli; omega
            rw [idx_lastC _ _ hL] at key
            simp only [Option.bind_some, set_lastC _ _ _ hL] at key
            refine key (L ++ [⟨u.From, x.At⟩]) (by simp at hli ⊢; omega) (by simp) ?_
            rw [opnV_c, decide_eq_false (by simp only; omega)]
            simp
        | false =>
          rw [ho] at key
          refine key l (by omega) (by simp) (by simp [ho])
      · simp only [c0, decide_false, Bool.false_and, if_false, Bool.false_eq_true] at key
        exact key l (by omega) rfl rfl
/-! the square root -/
theorem root_P {n : Int} (h0 : 0 ≤ n) (h1 : n ≤ 1000000000000000000) : ∃ r, place_root n = some r ∧ 0 ≤ r ∧ r * r ≤ n ∧ n < (r + 1) * (r + 1) := by
  have key : ∀ (m : Nat) (a b : Int), 0 ≤ a → a < b → b ≤ 2147483648 → b - a ≤ m → a * a ≤ n → n < b * b → ∃ r, place_root_l1 n a b = some r ∧ 0 ≤ r ∧ r * r ≤ n ∧ n < (r + 1) * (r + 1) := by
    intro m
    induction m with
    | zero => intro a b g1 g2 g3 g4; omega
    | succ m ih =>
      intro a b g1 g2 g3 g4 g5 g6
      unfold place_root_l1
      rw [iter_eq, place_root_b1]
      simp only
      rw [w64_in (x := b - a) (by omega) (by omega), w64_in (x := a + b) (by omega) (by omega)]
      by_cases c : 1 < b - a
      · rw [if_pos c]
        have hd : (a + b).tdiv 2 = (a + b) / 2 := Int.tdiv_eq_ediv_of_nonneg (by omega)
        rw [hd, w64_in (x := (a + b) / 2) (by omega) (by omega)]
        have hm := mul_bd (a := (a + b) / 2) (b := (a + b) / 2) (A := 2147483648) (B := 2147483648) (by omega) (by omega) (by omega) (by omega)
        rw [w64_in (by omega) (by omega)]
        unfold place_root_j1
        split
        · rename_i h
          exact ih _ _ (by omega) (by omega) (by omega) (by omega) h g6
        · rename_i h
          exact ih _ _ (by omega) (by omega) (by omega) (by omega) g5 (by omega)
      · rw [if_neg c, map_inr_after]
        obtain rfl : b = a + 1 := by omega
        exact ⟨a, rfl, g1, g5, g6⟩
  exact key 2147483648 0 2147483648 (by omega) (by omega) (by omega) (by omega) (by omega) (by omega)
theorem root_Q {n : Int} (h0 : 0 ≤ n) (h1 : n < 10000000000) : ∃ r, Q_root n = some r ∧ 0 ≤ r ∧ r * r ≤ n ∧ n < (r + 1) * (r + 1) := by
  have key : ∀ (m : Nat) (a b : Int), 0 ≤ a → a ≤ b → b ≤ 100000 → b - a ≤ m → a * a ≤ n → n < (b + 1) * (b + 1) → ∃ r, Q_root_l1 n a b = some r ∧ 0 ≤ r ∧ r * r ≤ n ∧ n < (r + 1) * (r + 1) := by
    intro m
    induction m with
    | zero =>
      intro a b g1 g2 g3 g4 g5 g6
      obtain rfl : b = a := by omega
      unfold Q_root_l1
      rw [iter_eq, Q_root_b1, if_neg (by simp), map_inr_after]
      exact ⟨_, rfl, g1, g5, g6⟩
    | succ m ih =>
      intro a b g1 g2 g3 g4 g5 g6
      unfold Q_root_l1
      rw [iter_eq, Q_root_b1]
      simp only
      by_cases c : a < b
      · rw [if_pos c, w64_in (x := a + b) (by omega) (by omega), w64_in (x := a + b + 1) (by omega) (by omega)]
        have hd : (a + b + 1).tdiv 2 = (a + b + 1) / 2 := Int.tdiv_eq_ediv_of_nonneg (by omega)
        rw [hd, w64_in (x := (a + b + 1) / 2) (by omega) (by omega)]
        have hm := mul_bd (a := (a + b + 1) / 2) (b := (a + b + 1) / 2) (A := 100000) (B := 100000) (by omega) (by omega) (by omega) (by omega)
        rw [w64_in (by omega) (by omega), w64_in (x := (a + b + 1) / 2 - 1) (by omega) (by omega)]
        unfold Q_root_j1
        split
        · rename_i h
          exact ih _ _ (by omega) (by omega) (by omega) (by omega) h g6
        · rename_i h
          refine ih _ _ (by omega) (by omega) (by omega) (by omega) g5 ?_
          rw [show (a + b + 1) / 2 - 1 + 1 = (a + b + 1) / 2 by omega]; omega
      · rw [if_neg c, map_inr_after]
        obtain rfl : b = a := by omega
        exact ⟨_, rfl, g1, g5, g6⟩
  exact key 100000 0 100000 (by omega) (by omega) (by omega) (by omega) (by omega) (by omega)
theorem root_one {n a b : Int} (a0 : 0 ≤ a) (b0 : 0 ≤ b) (a1 : a * a ≤ n) (a2 : n < (a + 1) * (a + 1)) (b1 : b * b ≤ n) (b2 : n < (b + 1) * (b + 1)) : a = b := by
  have h : ∀ x y : Int, 0 ≤ x → 0 ≤ y → x * x ≤ n → n < (y + 1) * (y + 1) → x ≤ y := by
    intro x y x0 y0 h1 h2
    apply Int.not_lt.1
    intro hc
    have := Int.mul_le_mul (show y + 1 ≤ x by omega) (show y + 1 ≤ x by omega) (by omega) (by omega)
    omega
  exact Int.le_antisymm (h a b a0 b0 a1 b2) (h b a b0 a0 b1 a2)
theorem Length_loop {xs : List Fix} (hx : ∀ x ∈ xs, FixR x) (hl : xs.length ≤ 2000) : ∀ (m i : Nat) (n : Int), i + m = xs.length → 1 ≤ i → 0 ≤ n → n ≤ 100000 * i → ∃ r, place_Length_l1 xs n i = some (r, 0) ∧ Q_LengthOf_l1 xs n i = some r := by
  intro m
  induction m with
  | zero =>
    intro i n hi h1 hn0 hn
    obtain rfl : i = xs.length := by omega
    refine ⟨n, ?_, ?_⟩
    · unfold place_Length_l1
      rw [iter_eq, place_Length_b1, if_neg (by simp only; omega), map_inr_after]
    · unfold Q_LengthOf_l1
      rw [iter_eq, Q_LengthOf_b1, if_neg (by simp only; omega), map_inr_after]
  | succ m ih =>
    intro i n hi h1 hn0 hn
    obtain ⟨x, x1, x2, _⟩ := idx_lt xs (i := (i : Int)) (by omega) (by omega)
    obtain ⟨y, y1, y2, _⟩ := idx_lt xs (i := (i : Int) - 1) (by omega) (by omega)
    have hw : w64 ((i : Int) + 1) = ((i + 1 : Nat) : Int) := by rw [w64_in (by omega) (by omega)]; simp
    have hw1 : w64 ((i : Int) - 1) = (i : Int) - 1 := by rw [w64_in (by omega) (by omega)]
    have sx := (hx x x2).1
    have sy := (hx y y2).1
    have e1 : place_square (place_spot y) (place_spot x) = sqG ⟨x.X, x.Y⟩ ⟨y.X, y.Y⟩ := by
      rw [sqG_comm]; exact square_eq sy sx
    have e2 : Q_square x y = sqG ⟨x.X, x.Y⟩ ⟨y.X, y.Y⟩ := Qsq_eq sx sy
    have hb := sqG_bd sx sy
    obtain ⟨r, r1, r2, r3, r4⟩ := root_P (n := sqG ⟨x.X, x.Y⟩ ⟨y.X, y.Y⟩) (by omega) (by omega)
    obtain ⟨q, q1, q2, q3, q4⟩ := root_Q (n := sqG ⟨x.X, x.Y⟩ ⟨y.X, y.Y⟩) (by omega) (by omega)
    obtain rfl := root_one r2 q2 r3 r4 q3 q4
    have hr : r ≤ 100000 := by
      apply Int.not_lt.1
      intro hc
      have := Int.mul_le_mul (show (100000 : Int) ≤ r by omega) (show (100000 : Int) ≤ r by omega) (by omega) (by omega)
      omega
    obtain ⟨z, z1, z2⟩ := ih (i + 1) (n + r) (by omega) (by omega) (by omega) (by omega)
    have hwn : w64 (n + r) = n + r := by rw [w64_in (by omega) (by omega)]
    refine ⟨z, ?_, ?_⟩
    · unfold place_Length_l1 at z1 ⊢
      rw [iter_eq, place_Length_b1, if_pos (by simp only; omega)]
      simp only [hw1, y1, x1, Option.bind_some, e1, r1, hwn, hw]
      exact z1
    · unfold Q_LengthOf_l1 at z2 ⊢
      rw [iter_eq, Q_LengthOf_b1, if_pos (by simp only; omega)]
      simp only [hw1, y1, x1, Option.bind_some, e2, q1, hwn, hw]
      exact z2
/-! stays -/
theorem findI_tw {α : Type} (p : α → Bool) : ∀ (xs : List α) (i : Int), findI p xs i = if (xs.takeWhile (fun x => !p x)).length = xs.length then -1 else i + (xs.takeWhile (fun x => !p x)).length
  | [], i => by simp [findI]
  | x :: r, i => by
    simp only [findI]
    by_cases h : p x = true
    · simp [h]
    · have h' : p x = false := by simpa using h
      rw [if_neg h, findI_tw p r (i + 1)]
      simp only [h', List.takeWhile_cons, Bool.not_false, if_true, List.length_cons, Nat.add_right_cancel_iff]
      split
      · rfl
      · omega
theorem tw_le {α : Type} (p : α → Bool) (xs : List α) : (xs.takeWhile p).length ≤ xs.length := by
  induction xs with
  | nil => simp
  | cons x r ih => simp only [List.takeWhile_cons]; split <;> simp <;> omega
/-- How many of those behind i are near. -/
def nearN (near : Int) (xs : List Fix) (i : Nat) (x : Fix) : Nat := ((xs.drop (i + 1)).takeWhile (fun y => decide (sqG ⟨x.X, x.Y⟩ ⟨y.X, y.Y⟩ ≤ near * near))).length
theorem Stays_inner {xs : List Fix} (hx : ∀ x ∈ xs, FixR x) (hl : xs.length ≤ 2000) {near long : Int} (hn : 0 ≤ near ∧ near ≤ 10000) {l : List Stay} {i : Nat} {x : Fix} (hi : idx xs i = some x) : ∀ (m k : Nat), k + m = xs.length → place_Stays_l2 xs near long l i k = place_Stays_k4 xs long l i ((k + ((xs.drop k).takeWhile (fun y => decide (sqG ⟨x.X, x.Y⟩ ⟨y.X, y.Y⟩ ≤ near * near))).length : Nat) : Int) := by
  have hm := mul_bd (a := near) (b := near) (A := 10000) (B := 10000) (by omega) (by omega) (by omega) (by omega)
  intro m
  induction m with
  | zero =>
    intro k hk
    obtain rfl : k = xs.length := by omega
    unfold place_Stays_l2
    rw [iter_eq, place_Stays_b2, if_neg (by omega), place_Stays_j2, if_neg (by simp), map_inr_after]
    simp
  | succ m ih =>
    intro k hk
    obtain ⟨y, y1, y2, y3⟩ := idx_lt xs (i := (k : Int)) (by omega) (by omega)
    have y3' : xs.drop k = y :: xs.drop (k + 1) := by simpa using y3
    have sx := (hx x (idx_mem hi)).1
    have sy := (hx y y2).1
    have e1 : place_square (place_spot x) (place_spot y) = sqG ⟨x.X, x.Y⟩ ⟨y.X, y.Y⟩ := square_eq sx sy
    have ih' := ih (k + 1) (by omega)
    have hw : w64 ((k : Int) + 1) = ((k + 1 : Nat) : Int) := by rw [w64_in (by omega) (by omega)]; simp
    unfold place_Stays_l2 at ih' ⊢
    rw [iter_eq, place_Stays_b2, if_pos (by omega)]
    simp only [hi, y1, Option.bind_some, e1]
    rw [place_Stays_j2, w64_in (x := near * near) (by omega) (by omega), y3']
    by_cases c : sqG ⟨x.X, x.Y⟩ ⟨y.X, y.Y⟩ ≤ near * near
    · rw [if_pos (by simpa using c), hw]
      refine Eq.trans ih' ?_
      simp only [List.takeWhile_cons, c, decide_true, if_true, List.length_cons]
      congr 2; omega
    · rw [if_neg (by simpa using c), map_inr_after]
      simp [List.takeWhile_cons, c]
theorem Stays_loop {xs : List Fix} (hx : ∀ x ∈ xs, FixR x) (hl : xs.length ≤ 2000) {near long : Int} (hn : 0 ≤ near ∧ near ≤ 10000) (hg : 1 ≤ long) : ∀ (m i : Nat) (l : List Stay), i + m = xs.length → l.length ≤ i → ∀ n, m ≤ n → True → ∃ r, r.length ≤ 2000 ∧ place_Stays_l1 xs near long l i = some (r, 0) ∧ Q_StaysOf_l1 near long (xs.drop i) l = some r := by
  have hm := mul_bd (a := near) (b := near) (A := 10000) (B := 10000) (by omega) (by omega) (by omega) (by omega)
  have hnn := sq_nn near
  intro m
  induction m using Nat.strongRecOn with
  | ind m ih =>
    intro i l hi hli n _ _
    by_cases hm0 : m = 0
    · subst hm0
      obtain rfl : i = xs.length := by omega
      refine ⟨l, by omega, ?_, ?_⟩
      · unfold place_Stays_l1
        rw [iter_eq, place_Stays_b1, if_neg (by simp only; omega), map_inr_after]
      · unfold Q_StaysOf_l1
        rw [iter_eq, Q_StaysOf_b1, if_neg (by simp), map_inr_after]
    · obtain ⟨x, x1, x2, x3⟩ := idx_lt xs (i := (i : Int)) (by omega) (by omega)
      have x3' : xs.drop i = x :: xs.drop (i + 1) := by simpa using x3
      have sx := hx x x2
      have hw : w64 ((i : Int) + 1) = ((i + 1 : Nat) : Int) := by rw [w64_in (by omega) (by omega)]; simp
      have hin := Stays_inner hx hl (long := long) hn (l := l) x1 (xs.length - (i + 1)) (i + 1) (by omega)
      generalize hT : ((xs.drop (i + 1)).takeWhile (fun y => decide (sqG ⟨x.X, x.Y⟩ ⟨y.X, y.Y⟩ ≤ near * near))).length = T at hin
      have hTl : T ≤ xs.length - (i + 1) := by
        have := tw_le (fun y : Fix => decide (sqG ⟨x.X, x.Y⟩ ⟨y.X, y.Y⟩ ≤ near * near)) (xs.drop (i + 1))
        rw [List.length_drop] at this; omega
      -- the reference's index
      have hf : ∀ y ∈ x :: xs.drop (i + 1), Q_StaysOf_1x y (x :: xs.drop (i + 1)) near = some (decide (near * near < sqG ⟨x.X, x.Y⟩ ⟨y.X, y.Y⟩)) := by
        intro y hy
        have sy : FixR y := by
          rcases List.mem_cons.1 hy with rfl | hy
          · exact sx
          · exact hx y (List.mem_of_mem_drop hy)
        unfold Q_StaysOf_1x
        have : idx (x :: xs.drop (i + 1)) 0 = some x := rfl
        rw [this]
        simp only [Option.bind_some]
        rw [w64_in (x := near * near) (by omega) (by omega), show Q_square y x = sqG ⟨x.X, x.Y⟩ ⟨y.X, y.Y⟩ by rw [sqG_comm]; exact Qsq_eq sy.1 sx.1]
      have hI : slices_IndexFunc_Fix_Fix (x :: xs.drop (i + 1)) (fun y0 => Q_StaysOf_1x y0 (x :: xs.drop (i + 1)) near) = some (findI (fun y => decide (near * near < sqG ⟨x.X, x.Y⟩ ⟨y.X, y.Y⟩)) (x :: xs.drop (i + 1)) 0) :=
        gIndexFunc_eq _ _ _ hf (by simp; omega)
      have h0 : sqG ⟨x.X, x.Y⟩ ⟨x.X, x.Y⟩ = 0 := by unfold sqG; simp
      have hp : (fun y : Fix => !decide (near * near < sqG ⟨x.X, x.Y⟩ ⟨y.X, y.Y⟩)) = fun y => decide (sqG ⟨x.X, x.Y⟩ ⟨y.X, y.Y⟩ ≤ near * near) := by
        funext y
        by_cases c : near * near < sqG ⟨x.X, x.Y⟩ ⟨y.X, y.Y⟩
        · rw [decide_eq_true c, decide_eq_false (by omega)]; rfl
        · rw [decide_eq_false c, decide_eq_true (by omega)]; rfl
      have hF : findI (fun y => decide (near * near < sqG ⟨x.X, x.Y⟩ ⟨y.X, y.Y⟩)) (x :: xs.drop (i + 1)) 0 = if 1 + T = (xs.drop i).length then -1 else ((1 + T : Nat) : Int) := by
        rw [findI_tw, hp]
        have : ((x :: xs.drop (i + 1)).takeWhile (fun y => decide (sqG ⟨x.X, x.Y⟩ ⟨y.X, y.Y⟩ ≤ near * near))).length = 1 + T := by
          rw [List.takeWhile_cons, if_pos (by rw [h0]; simpa using hnn), List.length_cons, hT]; omega
        rw [this, x3']
        simp
      have hLd : (xs.drop i).length = xs.length - i := by simp
      obtain ⟨y, y1, y2, _⟩ := idx_lt xs (i := ((i + T : Nat) : Int)) (by omega) (by omega)
      have yd : idx (xs.drop i) ((T : Nat) : Int) = some y := by
        unfold idx at y1 ⊢
        rw [if_pos (by omega)] at y1 ⊢
        rw [List.getElem?_drop]
        rw [show ((i + T : Nat) : Int).toNat = i + T by omega] at y1
        rw [show ((T : Nat) : Int).toNat = T by omega]
        exact y1
      have xd : idx (xs.drop i) 0 = some x := by rw [x3']; rfl
      have sy := hx y y2
      have hsub : w64 (y.At - x.At) = y.At - x.At := by
        have a := sx.2.2; have b := sy.2.2
        rw [w64_in (by omega) (by omega)]
      have hQ : Q_StaysOf_b1 near long (xs.drop i) l = Q_StaysOf_j2 long (xs.drop i) l ((1 + T : Nat) : Int) := by
        unfold Q_StaysOf_b1
        rw [if_pos (by omega), x3', hI, hF, ← x3']
        simp only [Option.bind_some]
        split
        · rename_i h
          rw [if_pos (by omega)]
          congr 1
          rw [← h]
        · rw [if_neg (by omega)]
      have hk1 : w64 (((i + 1 + T : Nat) : Int) - 1) = ((i + T : Nat) : Int) := by rw [w64_in (by omega) (by omega)]; omega
      have hk2 : w64 (((1 + T : Nat) : Int) - 1) = ((T : Nat) : Int) := by rw [w64_in (by omega) (by omega)]; omega
      by_cases c : long ≤ y.At - x.At
      · obtain ⟨r, r0, r1, r2⟩ := ih (m - (1 + T)) (by omega) (i + 1 + T) (l ++ [⟨x.At, y.At, ⟨x.X, x.Y⟩⟩]) (by omega) (by simp; omega) _ (Nat.le_refl _) trivial
        refine ⟨r, r0, ?_, ?_⟩
        · unfold place_Stays_l1 at r1 ⊢
          rw [iter_eq, place_Stays_b1, if_pos (by simp only; omega)]
          simp only [hw]
          rw [hin, place_Stays_k4, hk1]
          simp only [y1, x1, Option.bind_some, hsub]
          rw [if_pos c, app_le (by simp; omega)]
          exact r1
        · unfold Q_StaysOf_l1 at r2 ⊢
          rw [iter_eq]
          simp only
          rw [hQ, Q_StaysOf_j2, hk2]
          simp only [yd, xd, Option.bind_some, hsub]
          rw [if_neg (by omega), app_le (by simp; omega), slc_in (by omega) (by omega) (by omega)]
          simp only [Option.bind_some]
          have : ((xs.drop i).drop ((1 + T : Nat) : Int).toNat).take (((xs.drop i).length : Int).toNat - ((1 + T : Nat) : Int).toNat) = xs.drop (i + 1 + T) := by
            rw [List.drop_drop, List.take_of_length_le (by simp; omega)]
            congr 1
            all_goals omega
          rw [this]
          exact r2
      · obtain ⟨r, r0, r1, r2⟩ := ih (m - 1) (by omega) (i + 1) l (by omega) (by omega) _ (Nat.le_refl _) trivial
        refine ⟨r, r0, ?_, ?_⟩
        · unfold place_Stays_l1 at r1 ⊢
          rw [iter_eq, place_Stays_b1, if_pos (by simp only; omega)]
          simp only [hw]
          rw [hin, place_Stays_k4, hk1]
          simp only [y1, x1, Option.bind_some, hsub]
          rw [if_neg c, hw]
          exact r1
        · unfold Q_StaysOf_l1 at r2 ⊢
          rw [iter_eq]
          simp only
          rw [hQ, Q_StaysOf_j2, hk2]
          simp only [yd, xd, Option.bind_some, hsub]
          rw [if_pos (by omega), slc_in (by omega) (by omega) (by omega)]
          simp only [Option.bind_some]
          have : ((xs.drop i).drop (1 : Int).toNat).take (((xs.drop i).length : Int).toNat - (1 : Int).toNat) = xs.drop (i + 1) := by
            rw [List.drop_drop, List.take_of_length_le (by simp; omega)]
            congr 1
          rw [this]
          exact r2
/-! the law -/
theorem TracksVisit_plain (l : List Int) : L_TracksVisit l = some true := by
  unfold L_TracksVisit
  refine Gen.use (Fence_ok (k := 1000) ⟨by simp, by simp⟩ (by omega)) (fun f s1 hf hs1 => ?_)
  refine Gen.use (Track_ok (k := 500) (hs1.less (by omega)) (by omega) (by omega)) (fun xs s2 hx hs2 => ?_)
  refine Gen.use (Pick_ok (k := 400) (hs2.less (by omega)) (by simp) (by simp) (by omega)) (fun near s3 hn hs3 => ?_)
  refine Gen.use (Pick_ok (k := 300) (hs3.less (by omega)) (by simp) (by simp) (by omega)) (fun long s4 hg hs4 => ?_)
  simp only
  have hE2 : ∀ x y : Int, L_errs [x, y] = some (orL [x, y]) := fun x y => gOr_eq _ (by simp)
  have hxl : (xs.length : Int) ≤ 100000 := by have := hx.1; omega
  obtain ⟨e, e1, e2, e3⟩ := track_eq xs hx.2 hxl
  have hVis : ∃ w : List Visit × Int, w.1.length ≤ 2000 ∧ place_Visits f xs = some w ∧ w.2 = orL [fenE f, e] ∧ (if orL [fenE f, e] = 0 then Q_VisitsOf f xs = some w.1 else w.1 = []) := by
    unfold place_Visits
    rw [CheckFence_eq, e1]
    simp only [Option.bind_some]
    rw [First_eq _ (by simp)]
    simp only [Option.bind_some]
    by_cases h : orL [fenE f, e] = 0
    · obtain ⟨h1, h2⟩ := orL2_zero h
      obtain ⟨c1, c2⟩ := chkX_R (e3 h2)
      obtain ⟨r, r0, r1, r2⟩ := Visits_loop (fenE_right h1) c1 c2 xs.length 0 [] (by omega) (by simp)
      simp only [h, ne_eq, not_true_eq_false, if_false, if_true]
      exact ⟨_, r0, r1, rfl, r2⟩
    · simp only [h, ne_eq, not_false_eq_true, if_true, if_false]
      exact ⟨_, by simp, rfl, rfl, rfl⟩
  have hSt : ∃ w : List Stay × Int, w.1.length ≤ 2000 ∧ place_Stays xs near long = some w ∧ w.2 = orL [e, if near < 0 ∨ 10000 < near ∨ long < 1 ∨ 345686400000 < long then 1 else 0] ∧ (if orL [e, if near < 0 ∨ 10000 < near ∨ long < 1 ∨ 345686400000 < long then 1 else 0] = 0 then Q_StaysOf xs near long = some w.1 else w.1 = []) := by
    unfold place_Stays
    rw [e1]
    simp only [Option.bind_some]
    rw [orL2]
    by_cases h : e = 0
    · simp only [h, ne_eq, not_true_eq_false, if_false, place_Stays_j1]
      have hc : (base_Out near 0 10000 || base_Out long 1 345686400000) = true ↔ near < 0 ∨ 10000 < near ∨ long < 1 ∨ 345686400000 < long := by
        rw [Out_eq, Out_eq]; simp only [Bool.or_eq_true, decide_eq_true_eq]; omega
      obtain ⟨c1, c2⟩ := chkX_R (e3 h)
      by_cases hb : near < 0 ∨ 10000 < near ∨ long < 1 ∨ 345686400000 < long
      · rw [if_pos hb, if_pos (hc.2 hb)]
        exact ⟨_, by simp, rfl, rfl, rfl⟩
      · rw [if_neg hb, if_neg (fun h => hb (hc.1 h))]
        obtain ⟨r, r0, r1, r2⟩ := Stays_loop c1 c2 (near := near) (long := long) (by omega) (by omega) xs.length 0 [] (by omega) (by simp) _ (Nat.le_refl _) trivial
        exact ⟨_, r0, r1, rfl, r2⟩
    · simp only [h, ne_eq, not_false_eq_true, if_true, if_false]
      exact ⟨_, by simp, rfl, rfl, rfl⟩
  have hLen : ∃ w : Int × Int, place_Length xs = some w ∧ w.2 = e ∧ (if e = 0 then Q_LengthOf xs = some w.1 else w.1 = 0) := by
    unfold place_Length
    rw [e1]
    simp only [Option.bind_some]
    by_cases h : e = 0
    · simp only [h, ne_eq, not_true_eq_false, if_false, if_true]
      obtain ⟨c1, c2⟩ := chkX_R (e3 h)
      by_cases h0 : xs.length = 0
      · refine ⟨(0, 0), ?_, rfl, ?_⟩
        · unfold place_Length_l1
          rw [iter_eq, place_Length_b1, if_neg (by simp only; omega), map_inr_after]
        · unfold Q_LengthOf Q_LengthOf_l1
          rw [iter_eq, Q_LengthOf_b1, if_neg (by simp only; omega), map_inr_after]
      · obtain ⟨r, r1, r2⟩ := Length_loop c1 c2 (xs.length - 1) 1 0 (by omega) (by omega) (by omega) (by omega)
        exact ⟨(r, 0), r1, rfl, r2⟩
    · simp only [h, ne_eq, not_false_eq_true, if_true, if_false]
      exact ⟨_, rfl, rfl, rfl⟩
  obtain ⟨w, w0, w1, w2, w3⟩ := hVis
  obtain ⟨u, u0, u1, u2, u3⟩ := hSt
  obtain ⟨v, v1, v2, v3⟩ := hLen
  simp only [w1, u1, v1, e2, FenceFault_eq, hE2, Option.bind_some]
  have hV : ∀ a : List Visit, a.length ≤ 2000 → slices_Equal_Visit_Visit a a = some true := fun a ha => by
    have : slices_Equal_Visit_Visit a a = some (decide (a = a)) := gEqual_eq a a (by omega)
    simpa using this
  have hS : ∀ a : List Stay, a.length ≤ 2000 → slices_Equal_Stay_Stay a a = some true := fun a ha => by
    have : slices_Equal_Stay_Stay a a = some (decide (a = a)) := gEqual_eq a a (by omega)
    simpa using this
  have j4 : L_TracksVisit_j4 w u v e (orL [fenE f, e]) (orL [e, if near < 0 ∨ 10000 < near ∨ long < 1 ∨ 345686400000 < long then 1 else 0]) w.1 u.1 v.1 = some true := by
    unfold L_TracksVisit_j4 L_TracksVisit_j5
    simp only [w2, u2, v2, hV _ w0, hS _ u0, placedL_eq, Option.bind_some, if_true]
  have j1 : ∀ n, n = (orL [e, if near < 0 ∨ 10000 < near ∨ long < 1 ∨ 345686400000 < long then 1 else 0]) → L_TracksVisit_j1 (f, s1) (xs, s2) (near, s3) (long, s4) w u v e (orL [fenE f, e]) n = some true := by
    rintro n rfl
    have j3 : L_TracksVisit_j3 (xs, s2) w u v e (orL [fenE f, e]) (orL [e, if near < 0 ∨ 10000 < near ∨ long < 1 ∨ 345686400000 < long then 1 else 0]) w.1 u.1 = some true := by
      unfold L_TracksVisit_j3
      by_cases h : e = 0
      · rw [if_pos h] at v3
        rw [if_pos h]
        simp only [v3, Option.bind_some]; exact j4
      · rw [if_neg h] at v3
        rw [v3] at j4
        rw [if_neg h]; exact j4
    have j2 : L_TracksVisit_j2 (xs, s2) (near, s3) (long, s4) w u v e (orL [fenE f, e]) (orL [e, if near < 0 ∨ 10000 < near ∨ long < 1 ∨ 345686400000 < long then 1 else 0]) w.1 = some true := by
      unfold L_TracksVisit_j2
      by_cases h : orL [e, if near < 0 ∨ 10000 < near ∨ long < 1 ∨ 345686400000 < long then 1 else 0] = 0
      · rw [if_pos h] at u3
        rw [if_pos h]
        simp only [u3, Option.bind_some]; exact j3
      · rw [if_neg h] at u3
        rw [if_neg h, ← u3]; exact j3
    unfold L_TracksVisit_j1
    by_cases h : orL [fenE f, e] = 0
    · rw [if_pos h] at w3
      rw [if_pos h]
      simp only [w3, Option.bind_some]; exact j2
    · rw [if_neg h] at w3
      rw [if_neg h, ← w3]; exact j2
  by_cases c1 : near < 0
  · rw [if_pos c1]; exact j1 _ (by rw [if_pos (.inl c1)]; rfl)
  · rw [if_neg c1]
    by_cases c2 : 10000 < near
    · rw [if_pos c2]; exact j1 _ (by rw [if_pos (.inr (.inl c2))]; rfl)
    · rw [if_neg c2]
      by_cases c3 : long < 1
      · rw [if_pos c3]; exact j1 _ (by rw [if_pos (.inr (.inr (.inl c3)))]; rfl)
      · rw [if_neg c3]
        refine j1 _ ?_
        by_cases c4 : (345686400000 : Int) < long
        · rw [if_pos (.inr (.inr (.inr c4))), decide_eq_true c4]; rfl
        · rw [if_neg (by omega), decide_eq_false c4]; rfl
end Go.Beacon
