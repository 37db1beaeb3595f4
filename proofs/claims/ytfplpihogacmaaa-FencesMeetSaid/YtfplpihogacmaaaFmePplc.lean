/- Fences: the checks of the program and of the reference are the same; so is where a spot lies. No program in sight. -/
import Derived.Test.YtfplpihogacmaaaFmePnum
import Derived.Test.YtfplpihogacmaaaPgeo
set_option linter.unusedVariables false
set_option linter.unusedSimpArgs false
namespace Go.Beacon
open Go Go.Eng

/-! loops that look for the first -/
def firstG {A : Type} (g : Nat → Option A) : Nat → Nat → Option A
  | _, 0 => none
  | i, m + 1 => match g i with
    | some e => some e
    | none => firstG g (i + 1) m
def orE {A : Type} (o rest : Option A) : Option A := match o with
  | some e => some e
  | none => rest
theorem iter_first {A : Type} (f : Int → Option (Int ⊕ A)) (g : Nat → Option A) (n : Nat) (rest : Option A) (lo : Nat) (hf : ∀ i : Nat, lo ≤ i → i < n → f i = some (match g i with | some e => .inr e | none => .inl ((i : Int) + 1))) (he : f n = rest.map .inr) : ∀ (m i : Nat), lo ≤ i → i + m = n → iter f i = orE (firstG g i m) rest
  | 0, i, hlo, h => by
    obtain rfl : i = n := by omega
    rw [iter_eq, he, map_inr_after]; rfl
  | m + 1, i, hlo, h => by
    rw [iter_eq, hf i hlo (by omega)]
    simp only [Option.bind_some, firstG]
    cases hg : g i with
    | some e => rfl
    | none =>
      have := iter_first f g n rest lo hf he m (i + 1) (by omega) (by omega)
      rw [after_inl]
      exact this
theorem firstG_none {A : Type} {g : Nat → Option A} : ∀ {m i : Nat}, firstG g i m = none ↔ ∀ j, i ≤ j → j < i + m → g j = none
  | 0, i => by simp only [firstG, true_iff]; intro j h1 h2; omega
  | m + 1, i => by
    simp only [firstG]
    cases hg : g i with
    | some e =>
      simp only [reduceCtorEq, false_iff]
      intro h
      have := h i (by omega) (by omega)
      rw [hg] at this; cases this
    | none =>
      simp only
      rw [firstG_none (m := m)]
      constructor
      · intro h j h1 h2
        by_cases e : j = i
        · rw [e]; exact hg
        · exact h j (by omega) (by omega)
      · intro h j h1 h2; exact h j (by omega) (by omega)
theorem firstG_some {A : Type} {g : Nat → Option A} : ∀ {m i : Nat} {e : A}, firstG g i m = some e → ∃ j, i ≤ j ∧ j < i + m ∧ g j = some e
  | 0, i, e, h => by simp [firstG] at h
  | m + 1, i, e, h => by
    simp only [firstG] at h
    cases hg : g i with
    | some e' => rw [hg] at h; exact ⟨i, by omega, by omega, by rw [hg]; exact h⟩
    | none =>
      rw [hg] at h
      obtain ⟨j, h1, h2, h3⟩ := firstG_some h
      exact ⟨j, by omega, by omega, h3⟩
/-- A loop that looks whether any element has something. -/
theorem iter_anyP {A : Type} (f : Int → Option (Int ⊕ A)) (B : Nat → Prop) (hit miss : A) (n : Nat) (i0 : Nat) (hf : ∀ i : Nat, i0 ≤ i → i < n → (B i → f i = some (.inr hit)) ∧ (¬ B i → f i = some (.inl ((i : Int) + 1)))) (he : f n = some (.inr miss)) (h0 : i0 ≤ n) : ((∃ i, i0 ≤ i ∧ i < n ∧ B i) → iter f i0 = some hit) ∧ ((¬ ∃ i, i0 ≤ i ∧ i < n ∧ B i) → iter f i0 = some miss) := by
  have key := iter_first f (fun i => open Classical in if B i then some hit else none) n (some miss) i0 (fun i hlo hi => by
    have := hf i hlo hi
    by_cases h : B i
    · rw [this.1 h]; simp [h]
    · rw [this.2 h]; simp [h]) (by rw [he]; rfl) (n - i0) i0 (by omega) (by omega)
  constructor
  · rintro ⟨i, h1, h2, h3⟩
    rw [key]
    cases hg : firstG (fun i => open Classical in if B i then some hit else none) i0 (n - i0) with
    | none =>
      have := firstG_none.1 hg i h1 (by omega)
      simp [h3] at this
    | some e =>
      obtain ⟨j, _, _, hj⟩ := firstG_some hg
      by_cases h : B j
      · simp [h] at hj; rw [hj]; rfl
      · simp [h] at hj
  · intro hn
    rw [key]
    cases hg : firstG (fun i => open Classical in if B i then some hit else none) i0 (n - i0) with
    | none => rfl
    | some e =>
      obtain ⟨j, j1, j2, hj⟩ := firstG_some hg
      by_cases h : B j
      · exact absurd ⟨j, j1, by omega, h⟩ hn
      · simp [h] at hj

/-! spots -/
def GS (s : Spot) : GP := ⟨s.X, s.Y⟩
def SB (s : Spot) : Prop := (-10000 ≤ s.X ∧ s.X ≤ 10000) ∧ (-10000 ≤ s.Y ∧ s.Y ≤ 10000)
instance (a b s : GP) : Decidable (onS a b s) := by unfold onS btw; exact inferInstance
instance (x y : Int) : Decidable (opp x y) := by unfold opp; exact inferInstance
instance (a b c d : GP) : Decidable (meet a b c d) := by unfold meet; exact inferInstance
theorem isSpot_eq (s : Spot) : place_isSpot s = true ↔ SB s := by
  unfold place_isSpot place_isSpot_j1 SB
  simp only [Out_eq]
  simp
theorem SpotFault_eq (s : Spot) : (SB s → Q_SpotFault s = 0) ∧ (¬ SB s → Q_SpotFault s = 1) := by
  unfold Q_SpotFault Q_SpotFault_j1 SB
  rw [Qin_eq, Qin_eq]
  constructor
  · rintro ⟨⟨h1, h2⟩, ⟨h3, h4⟩⟩
    simp [h1, h2, h3, h4]
  · intro h
    rw [if_pos]
    simp only [Bool.or_eq_true, Bool.not_eq_true', Bool.and_eq_false_iff, decide_eq_false_iff_not]
    omega
theorem sub_w {a b : Int} (ha : -10000 ≤ a ∧ a ≤ 10000) (hb : -10000 ≤ b ∧ b ≤ 10000) : w64 (a - b) = a - b := by rw [w64_in] <;> omega
theorem sd_bd {a b s : Spot} (ha : SB a) (hb : SB b) (hs : SB s) : -800000000 ≤ sd (GS a) (GS b) (GS s) ∧ sd (GS a) (GS b) (GS s) ≤ 800000000 := by
  unfold SB at ha hb hs
  have m1 := mul_bd (a := b.X - a.X) (b := s.Y - a.Y) (A := 20000) (B := 20000) (by omega) (by omega) (by omega) (by omega)
  have m2 := mul_bd (a := b.Y - a.Y) (b := s.X - a.X) (A := 20000) (B := 20000) (by omega) (by omega) (by omega) (by omega)
  unfold sd GS
  simp only
  omega
theorem side_eq {a b s : Spot} (ha : SB a) (hb : SB b) (hs : SB s) : place_side a b s = sd (GS a) (GS b) (GS s) := by
  have hd := sd_bd ha hb hs
  unfold SB at ha hb hs
  have m1 := mul_bd (a := b.X - a.X) (b := s.Y - a.Y) (A := 20000) (B := 20000) (by omega) (by omega) (by omega) (by omega)
  have m2 := mul_bd (a := b.Y - a.Y) (b := s.X - a.X) (A := 20000) (B := 20000) (by omega) (by omega) (by omega) (by omega)
  unfold place_side
  rw [sub_w hb.1 ha.1, sub_w hs.2 ha.2, sub_w hb.2 ha.2, sub_w hs.1 ha.1, w64_in (x := (b.X - a.X) * (s.Y - a.Y)) (by omega) (by omega), w64_in (x := (b.Y - a.Y) * (s.X - a.X)) (by omega) (by omega), w64_in (by omega) (by omega)]
  rfl
theorem cross_eq {a b s : Spot} (ha : SB a) (hb : SB b) (hs : SB s) : Q_cross (Q_minus b a) (Q_minus s a) = sd (GS a) (GS b) (GS s) := by
  have hd := sd_bd ha hb hs
  unfold SB at ha hb hs
  have m1 := mul_bd (a := b.X - a.X) (b := s.Y - a.Y) (A := 20000) (B := 20000) (by omega) (by omega) (by omega) (by omega)
  have m2 := mul_bd (a := b.Y - a.Y) (b := s.X - a.X) (A := 20000) (B := 20000) (by omega) (by omega) (by omega) (by omega)
  unfold Q_cross Q_minus
  simp only
  rw [sub_w hb.1 ha.1, sub_w hs.2 ha.2, sub_w hb.2 ha.2, sub_w hs.1 ha.1, w64_in (x := (b.X - a.X) * (s.Y - a.Y)) (by omega) (by omega), w64_in (x := (b.Y - a.Y) * (s.X - a.X)) (by omega) (by omega), w64_in (by omega) (by omega)]
  rfl
theorem sign_s (x : Int) : (Q_sign x = 0 ↔ x = 0) ∧ (Q_sign x < 0 ↔ x < 0) ∧ (0 < Q_sign x ↔ 0 < x) := by
  unfold Q_sign
  repeat' split
  all_goals omega
theorem Qside_s {a b s : Spot} (ha : SB a) (hb : SB b) (hs : SB s) : (Q_side a b s = 0 ↔ sd (GS a) (GS b) (GS s) = 0) ∧ (Q_side a b s < 0 ↔ sd (GS a) (GS b) (GS s) < 0) ∧ (0 < Q_side a b s ↔ 0 < sd (GS a) (GS b) (GS s)) := by
  unfold Q_side
  rw [cross_eq ha hb hs]
  exact sign_s _
theorem on_eq {a b s : Spot} (ha : SB a) (hb : SB b) (hs : SB s) : place_on a b s = decide (onS (GS a) (GS b) (GS s)) := by
  unfold place_on place_on_j1
  rw [side_eq ha hb hs, Bool.eq_iff_iff]
  simp only [Bool.and_eq_true, decide_eq_true_eq]
  unfold onS btw
  show _ ↔ _ ∧ ((a.X ≤ s.X ∧ s.X ≤ b.X) ∨ (b.X ≤ s.X ∧ s.X ≤ a.X)) ∧ ((a.Y ≤ s.Y ∧ s.Y ≤ b.Y) ∨ (b.Y ≤ s.Y ∧ s.Y ≤ a.Y))
  constructor
  · rintro ⟨h0, h1, h2, h3, h4⟩
    exact ⟨h0, by omega, by omega⟩
  · rintro ⟨h0, h1, h2⟩
    exact ⟨h0, by omega, by omega, by omega, by omega⟩
theorem dot_on {a b s : GP} (h0 : sd a b s = 0) : (a.x - s.x) * (b.x - s.x) + (a.y - s.y) * (b.y - s.y) ≤ 0 ↔ btw a.x b.x s.x ∧ btw a.y b.y s.y := by
  have e : (a.x - s.x) * (b.y - s.y) = (a.y - s.y) * (b.x - s.x) := by unfold sd at h0; grind
  generalize hu : a.x - s.x = u at *
  generalize hv : b.x - s.x = v at *
  generalize hp : a.y - s.y = p at *
  generalize hq : b.y - s.y = q at *
  have bx : btw a.x b.x s.x ↔ ¬ ((0 < u ∧ 0 < v) ∨ (u < 0 ∧ v < 0)) := by unfold btw; omega
  have by_ : btw a.y b.y s.y ↔ ¬ ((0 < p ∧ 0 < q) ∨ (p < 0 ∧ q < 0)) := by unfold btw; omega
  rw [bx, by_]
  have sq : (u * v) * (p * q) = (u * q) * (u * q) := by
    have : (u * v) * (p * q) = (u * q) * (p * v) := by grind
    rw [this, ← e]
  have sq0 : 0 ≤ (u * q) * (u * q) := by
    rcases Int.le_total 0 (u * q) with h | h
    · exact Int.mul_nonneg h h
    · have := Int.mul_nonneg (show 0 ≤ -(u * q) by omega) (show 0 ≤ -(u * q) by omega)
      rw [Int.neg_mul_neg] at this; exact this
  have pp : ∀ {x y : Int}, (0 < x ∧ 0 < y) ∨ (x < 0 ∧ y < 0) → 0 < x * y := by
    rintro x y (⟨h1, h2⟩ | ⟨h1, h2⟩)
    · exact Int.mul_pos h1 h2
    · have := Int.mul_pos (show 0 < -x by omega) (show 0 < -y by omega)
      rw [Int.neg_mul_neg] at this; exact this
  have np : ∀ {x y : Int}, ¬ ((0 < x ∧ 0 < y) ∨ (x < 0 ∧ y < 0)) → x * y ≤ 0 := by
    intro x y h
    rcases Int.le_total 0 x with k | k
    · by_cases z : x = 0
      · subst z; simp
      · have := Int.mul_nonneg k (show 0 ≤ -y by omega)
        rw [Int.mul_neg] at this; omega
    · by_cases z : x = 0
      · subst z; simp
      · have := Int.mul_nonneg (show 0 ≤ -x by omega) (show 0 ≤ y by omega)
        rw [Int.neg_mul] at this; omega
  constructor
  · intro h
    constructor
    · intro k
      have k1 := pp k
      have k2 : p * q < 0 := by omega
      have := Int.mul_neg_of_pos_of_neg k1 k2
      omega
    · intro k
      have k1 := pp k
      have k2 : u * v < 0 := by omega
      have := Int.mul_neg_of_neg_of_pos k2 k1
      omega
  · rintro ⟨h1, h2⟩
    have := np h1
    have := np h2
    omega
theorem dot_bd {u v p q : Int} (h1 : -20000 ≤ u ∧ u ≤ 20000) (h2 : -20000 ≤ v ∧ v ≤ 20000) (h3 : -20000 ≤ p ∧ p ≤ 20000) (h4 : -20000 ≤ q ∧ q ≤ 20000) : w64 (w64 (u * v) + w64 (p * q)) = u * v + p * q ∧ -800000000 ≤ u * v + p * q ∧ u * v + p * q ≤ 800000000 := by
  have m1 := mul_bd (a := u) (b := v) (A := 20000) (B := 20000) (by omega) (by omega) (by omega) (by omega)
  have m2 := mul_bd (a := p) (b := q) (A := 20000) (B := 20000) (by omega) (by omega) (by omega) (by omega)
  refine ⟨?_, by omega, by omega⟩
  rw [w64_in (x := u * v) (by omega) (by omega), w64_in (x := p * q) (by omega) (by omega), w64_in (by omega) (by omega)]
theorem dot_eq {a b c d : Spot} (ha : SB a) (hb : SB b) (hc : SB c) (hd : SB d) : Q_dot (Q_minus a b) (Q_minus c d) = (a.X - b.X) * (c.X - d.X) + (a.Y - b.Y) * (c.Y - d.Y) := by
  unfold SB at ha hb hc hd
  unfold Q_dot Q_minus
  simp only
  rw [sub_w ha.1 hb.1, sub_w hc.1 hd.1, sub_w ha.2 hb.2, sub_w hc.2 hd.2]
  exact (dot_bd (by omega) (by omega) (by omega) (by omega)).1
theorem onWay_eq {a b s : Spot} (ha : SB a) (hb : SB b) (hs : SB s) : Q_onWay a b s = decide (onS (GS a) (GS b) (GS s)) := by
  unfold Q_onWay Q_onWay_j1
  rw [dot_eq ha hs hb hs, Bool.eq_iff_iff]
  simp only [Bool.and_eq_true, decide_eq_true_eq]
  rw [(Qside_s ha hb hs).1]
  unfold onS
  constructor
  · rintro ⟨h0, h1⟩; exact ⟨h0, (dot_on h0).1 h1⟩
  · rintro ⟨h0, h1⟩; exact ⟨h0, (dot_on h0).2 h1⟩
theorem sgn_opp {x y : Int} (hx : x = -1 ∨ x = 0 ∨ x = 1) (hy : y = -1 ∨ y = 0 ∨ y = 1) : w64 (x * y) < 0 ↔ opp x y := by
  unfold opp
  rcases hx with rfl | rfl | rfl <;> rcases hy with rfl | rfl | rfl <;> decide
theorem sign_v (x : Int) : Q_sign x = -1 ∨ Q_sign x = 0 ∨ Q_sign x = 1 := by
  unfold Q_sign
  repeat' split
  all_goals omega
theorem cmpI_v (x y : Int) : cmpI x y = -1 ∨ cmpI x y = 0 ∨ cmpI x y = 1 := by
  unfold cmpI
  repeat' split
  all_goals omega
theorem opp_sign (x y : Int) : opp (Q_sign x) (Q_sign y) ↔ opp x y := by
  have h1 := sign_s x; have h2 := sign_s y
  unfold opp; omega
theorem opp_cmp (x y : Int) : opp (cmpI x 0) (cmpI y 0) ↔ opp x y := by
  have h1 : (cmpI x 0 < 0 ↔ x < 0) ∧ (0 < cmpI x 0 ↔ 0 < x) := by
    unfold cmpI
    repeat' split
    all_goals omega
  have h2 : (cmpI y 0 < 0 ↔ y < 0) ∧ (0 < cmpI y 0 ↔ 0 < y) := by
    unfold cmpI
    repeat' split
    all_goals omega
  unfold opp; omega
theorem meets_eq {a b c d : Spot} (ha : SB a) (hb : SB b) (hc : SB c) (hd : SB d) : place_meets a b c d = decide (meet (GS a) (GS b) (GS c) (GS d)) := by
  unfold place_meets place_meets_j1 place_meets_j2
  rw [on_eq ha hb hc, on_eq ha hb hd, on_eq hc hd ha, on_eq hc hd hb, side_eq ha hb hc, side_eq ha hb hd, side_eq hc hd ha, side_eq hc hd hb, Bool.eq_iff_iff]
  simp only [CompareI_eq, Bool.or_eq_true, decide_eq_true_eq]
  unfold meet
  split
  · rename_i h
    simp only [true_iff]
    rcases h with h | h | h | h <;> simp [h]
  · rename_i h
    simp only [Bool.and_eq_true, decide_eq_true_eq]
    rw [sgn_opp (cmpI_v _ _) (cmpI_v _ _), sgn_opp (cmpI_v _ _) (cmpI_v _ _), opp_cmp, opp_cmp]
    simp only [not_or] at h
    simp [h]
theorem touches_eq {a b c d : Spot} (ha : SB a) (hb : SB b) (hc : SB c) (hd : SB d) : Q_touches a b c d = decide (meet (GS a) (GS b) (GS c) (GS d)) := by
  unfold Q_touches Q_touches_j1 Q_touches_j2
  rw [onWay_eq ha hb hc, onWay_eq ha hb hd, onWay_eq hc hd ha, onWay_eq hc hd hb, Bool.eq_iff_iff]
  simp only [Bool.or_eq_true, decide_eq_true_eq]
  unfold meet
  split
  · rename_i h
    simp only [true_iff]
    rcases h with h | h | h | h <;> simp [h]
  · rename_i h
    simp only [Bool.and_eq_true, decide_eq_true_eq]
    unfold Q_side
    rw [cross_eq ha hb hc, cross_eq ha hb hd, cross_eq hc hd ha, cross_eq hc hd hb]
    rw [sgn_opp (sign_v _) (sign_v _), sgn_opp (sign_v _) (sign_v _), opp_sign, opp_sign]
    simp only [not_or] at h
    simp [h]

/-! corners -/
/-- The corners of a fence, going round and round. -/
def pl (l : List Spot) (j : Nat) : GP := match l[j % l.length]? with
  | some s => GS s
  | none => ⟨0, 0⟩
theorem pl_at {l : List Spot} {i : Nat} (h : i < l.length) : GS l[i] = pl l i := by
  unfold pl; rw [Nat.mod_eq_of_lt h]; simp [h]
theorem pl_mod (l : List Spot) (j : Nat) : pl l (j % l.length) = pl l j := by unfold pl; rw [Nat.mod_mod]
theorem pl_mod1 (l : List Spot) (j : Nat) : pl l (j % l.length + 1) = pl l (j + 1) := by unfold pl; rw [Nat.mod_add_mod]
theorem pl_per (l : List Spot) (j : Nat) : pl l (j + l.length) = pl l j := by unfold pl; rw [Nat.add_mod_right]
/-- The ends of an edge. -/
theorem edge_at (l : List Spot) {i : Nat} (h : i < l.length) (hl : l.length ≤ 100000) : ∃ a b : Spot, idx l (i : Int) = some a ∧ rem (w64 ((i : Int) + 1)) (l.length : Int) = some (((i + 1) % l.length : Nat) : Int) ∧ idx l (((i + 1) % l.length : Nat) : Int) = some b ∧ GS a = pl l i ∧ GS b = pl l (i + 1) ∧ a ∈ l ∧ b ∈ l := by
  have hm : (i + 1) % l.length < l.length := Nat.mod_lt _ (by omega)
  refine ⟨l[i], l[(i + 1) % l.length], ?_, ?_, ?_, pl_at h, ?_, List.getElem_mem h, List.getElem_mem hm⟩
  · unfold idx; rw [if_pos (by omega)]; simp [h]
  · rw [w64_in (by omega) (by omega), rem_pos (by omega) (by omega)]
    simp
  · unfold idx; rw [if_pos (by omega), Int.toNat_natCast]; simp [hm]
  · rw [pl_at hm, pl_mod]
theorem Qedge_at (l : List Spot) {i : Nat} (h : i < l.length) (hl : l.length ≤ 100000) : ∃ a b : Spot, Q_edge l (i : Int) = some (a, b) ∧ GS a = pl l i ∧ GS b = pl l (i + 1) ∧ a ∈ l ∧ b ∈ l := by
  obtain ⟨a, b, h1, h2, h3, h4⟩ := edge_at l h hl
  refine ⟨a, b, ?_, h4⟩
  unfold Q_edge
  rw [h1, h2]
  simp only [Option.bind_some]
  rw [h3]; rfl
theorem GS_inj {a b : Spot} : a = b ↔ GS a = GS b := by
  constructor
  · rintro rfl; rfl
  · intro h
    have h1 := congrArg GP.x h
    have h2 := congrArg GP.y h
    cases a; cases b
    simp only [GS] at h1 h2
    rw [h1, h2]
/-- Corners that are all different. -/
def Dist (l : List Spot) : Prop := ∀ i j, i < l.length → j < l.length → pl l i = pl l j → i = j
def badQ (l : List Spot) (i k : Nat) : Prop := (pl l (i + 1) = pl l k ∧ (onS (pl l i) (pl l (i + 1)) (pl l (k + 1)) ∨ onS (pl l k) (pl l (k + 1)) (pl l i))) ∨ (pl l (i + 1) ≠ pl l k ∧ pl l (k + 1) ≠ pl l i ∧ meet (pl l i) (pl l (i + 1)) (pl l k) (pl l (k + 1)))
def badP (l : List Spot) (i k : Nat) : Prop := (k = i + 1 ∧ (onS (pl l i) (pl l (i + 1)) (pl l (k + 1)) ∨ onS (pl l k) (pl l (k + 1)) (pl l i))) ∨ ((k + 1) % l.length = i ∧ (onS (pl l i) (pl l (i + 1)) (pl l k) ∨ onS (pl l k) (pl l (k + 1)) (pl l (i + 1)))) ∨ (k ≠ i + 1 ∧ (k + 1) % l.length ≠ i ∧ meet (pl l i) (pl l (i + 1)) (pl l k) (pl l (k + 1)))
theorem Dist.iff {l : List Spot} (h : Dist l) (hn : 0 < l.length) (a b : Nat) : pl l a = pl l b ↔ a % l.length = b % l.length := by
  constructor
  · intro e
    refine h _ _ (Nat.mod_lt _ hn) (Nat.mod_lt _ hn) ?_
    rw [pl_mod, pl_mod]; exact e
  · intro e
    rw [← pl_mod l a, ← pl_mod l b, e]
theorem mod_succ {n i : Nat} (h : i < n) : (i + 1 = n ∧ (i + 1) % n = 0) ∨ (i + 1 < n ∧ (i + 1) % n = i + 1) := by
  by_cases e : i + 1 = n
  · left; exact ⟨e, by rw [e, Nat.mod_self]⟩
  · right; exact ⟨by omega, Nat.mod_eq_of_lt (by omega)⟩
theorem bad_same {l : List Spot} (hd : Dist l) (hn : 3 ≤ l.length) : (∃ i, 0 ≤ i ∧ i < l.length ∧ ∃ k, i + 1 ≤ k ∧ k < l.length ∧ badP l i k) ↔ (∃ i, 0 ≤ i ∧ i < l.length ∧ ∃ k, 0 ≤ k ∧ k < l.length ∧ k ≠ i ∧ badQ l i k) := by
  have hi : ∀ a b : Nat, pl l a = pl l b ↔ a % l.length = b % l.length := hd.iff (by omega)
  have hm : ∀ {a : Nat}, a < l.length → a % l.length = a := fun h => Nat.mod_eq_of_lt h
  constructor
  · rintro ⟨i, _, i1, k, k0, k1, h⟩
    have mi := mod_succ i1
    have mk := mod_succ k1
    rcases h with ⟨h1, h2⟩ | ⟨h1, h2⟩ | ⟨h1, h2, h3⟩
    · exact ⟨i, by omega, i1, k, by omega, k1, by omega, .inl ⟨by rw [h1], h2⟩⟩
    · refine ⟨k, by omega, k1, i, by omega, i1, by omega, .inl ⟨?_, h2.symm⟩⟩
      rw [hi, hm i1]; exact h1
    · refine ⟨i, by omega, i1, k, by omega, k1, by omega, .inr ⟨?_, ?_, h3⟩⟩
      · intro e; rw [hi, hm k1] at e; omega
      · intro e; rw [hi, hm i1] at e; omega
  · rintro ⟨i, _, i1, k, k0, k1, hne, h⟩
    have mi := mod_succ i1
    have mk := mod_succ k1
    by_cases hlt : i < k
    · refine ⟨i, by omega, i1, k, by omega, k1, ?_⟩
      rcases h with ⟨h1, h2⟩ | ⟨h1, h2, h3⟩
      · rw [hi, hm k1] at h1
        exact .inl ⟨by omega, h2⟩
      · rw [Ne, hi, hm k1] at h1
        rw [Ne, hi, hm i1] at h2
        exact .inr (.inr ⟨by omega, by omega, h3⟩)
    · refine ⟨k, by omega, k1, i, by omega, i1, ?_⟩
      rcases h with ⟨h1, h2⟩ | ⟨h1, h2, h3⟩
      · rw [hi, hm k1] at h1
        exact .inr (.inl ⟨h1, h2.symm⟩)
      · rw [Ne, hi, hm k1] at h1
        rw [Ne, hi, hm i1] at h2
        exact .inr (.inr ⟨by omega, by omega, meet_comm.1 h3⟩)
theorem crossed_round {l : List Spot} (hs : ∀ x ∈ l, SB x) (hn : 3 ≤ l.length) (hl : l.length ≤ 200) {i k : Nat} (hi : i < l.length) (hk : k < l.length) {a b : Spot} (a4 : GS a = pl l i) (a5 : GS b = pl l (i + 1)) (a6 : a ∈ l) (a7 : b ∈ l) : (badP l i k → place_crossed_b2 l i a b (k : Int) = some (.inr (.inr true))) ∧ (¬ badP l i k → place_crossed_b2 l i a b (k : Int) = some (.inl ((k : Int) + 1))) := by
  obtain ⟨c, d, c1, c2, c3, c4, c5, c6, c7⟩ := edge_at l hk (by omega)
  rw [place_crossed_b2, if_pos (by omega), c1]
  simp only [Option.bind_some]
  rw [c2]
  simp only [Option.bind_some]
  rw [c3]
  simp only [Option.bind_some]
  unfold place_crossed_j1 place_crossed_j2 place_crossed_j3
  rw [meets_eq (hs a a6) (hs b a7) (hs c c6) (hs d c7), on_eq (hs a a6) (hs b a7) (hs d c7), on_eq (hs c c6) (hs d c7) (hs a a6), on_eq (hs a a6) (hs b a7) (hs c c6), on_eq (hs c c6) (hs d c7) (hs b a7), a4, a5, c4, c5, w64_in (x := (i : Int) + 1) (by omega) (by omega), w64_in (x := (k : Int) + 1) (by omega) (by omega)]
  have ek : ((k : Int) = (i : Int) + 1) ↔ k = i + 1 := by omega
  have em : ((((k + 1) % l.length : Nat) : Int) = (i : Int)) ↔ (k + 1) % l.length = i := by omega
  have hb : badP l i k ↔ ((decide (k = i + 1) && (decide (onS (pl l i) (pl l (i + 1)) (pl l (k + 1))) || decide (onS (pl l k) (pl l (k + 1)) (pl l i)))) || ((decide ((k + 1) % l.length = i) && (decide (onS (pl l i) (pl l (i + 1)) (pl l k)) || decide (onS (pl l k) (pl l (k + 1)) (pl l (i + 1))))) || (!decide (k = i + 1) && (!decide ((k + 1) % l.length = i) && decide (meet (pl l i) (pl l (i + 1)) (pl l k) (pl l (k + 1))))))) = true := by
    unfold badP
    simp only [Bool.or_eq_true, Bool.and_eq_true, decide_eq_true_eq, Bool.not_eq_true', decide_eq_false_iff_not, ne_eq]
  rw [hb]
  simp only [ek, em, decide_not]
  generalize decide (k = i + 1) = A
  generalize decide ((k + 1) % l.length = i) = B
  generalize decide (meet (pl l i) (pl l (i + 1)) (pl l k) (pl l (k + 1))) = M
  generalize (decide (onS (pl l i) (pl l (i + 1)) (pl l (k + 1))) || decide (onS (pl l k) (pl l (k + 1)) (pl l i))) = X
  generalize (decide (onS (pl l i) (pl l (i + 1)) (pl l k)) || decide (onS (pl l k) (pl l (k + 1)) (pl l (i + 1)))) = Y
  cases A <;> cases B <;> cases M <;> cases X <;> cases Y <;> simp
theorem crossed_eq {l : List Spot} (hs : ∀ x ∈ l, SB x) (hn : 3 ≤ l.length) (hl : l.length ≤ 200) : ((∃ i, 0 ≤ i ∧ i < l.length ∧ ∃ k, i + 1 ≤ k ∧ k < l.length ∧ badP l i k) → place_crossed l = some true) ∧ ((¬ ∃ i, 0 ≤ i ∧ i < l.length ∧ ∃ k, i + 1 ≤ k ∧ k < l.length ∧ badP l i k) → place_crossed l = some false) := by
  unfold place_crossed place_crossed_l1
  refine iter_anyP (fun x : Int => place_crossed_b1 l x) (fun i => ∃ k, i + 1 ≤ k ∧ k < l.length ∧ badP l i k) true false l.length 0 (fun i _ hi => ?_) ?_ (by omega)
  · obtain ⟨a, b, a1, a2, a3, a4, a5, a6, a7⟩ := edge_at l hi (by omega)
    have e : place_crossed_b1 l (i : Int) = iter (fun x : Int => place_crossed_b2 l i a b x) ((i + 1 : Nat) : Int) := by
      rw [place_crossed_b1, if_pos (by omega), a1]
      simp only [Option.bind_some]
      rw [a2]
      simp only [Option.bind_some]
      rw [a3]
      simp only [Option.bind_some]
      rw [w64_in (by omega) (by omega)]
      rfl
    show (_ → place_crossed_b1 l (i : Int) = _) ∧ (_ → place_crossed_b1 l (i : Int) = _)
    rw [e]
    refine iter_anyP (fun x : Int => place_crossed_b2 l i a b x) (fun k => badP l i k) (Sum.inr true) (Sum.inl ((i : Int) + 1)) l.length (i + 1) (fun k _ hk => crossed_round hs hn hl hi hk a4 a5 a6 a7) ?_ (by omega)
    show place_crossed_b2 l i a b ((l.length : Nat) : Int) = _
    rw [place_crossed_b2, if_neg (by omega), w64_in (by omega) (by omega)]; rfl
  · show place_crossed_b1 l ((l.length : Nat) : Int) = _
    rw [place_crossed_b1, if_neg (by omega)]; rfl
theorem Qround {l : List Spot} (hs : ∀ x ∈ l, SB x) (hl : l.length ≤ 200) {i k : Nat} (hi : i < l.length) (hk : k < l.length) {a b : Spot} (a4 : GS a = pl l i) (a5 : GS b = pl l (i + 1)) (a6 : a ∈ l) (a7 : b ∈ l) : (k ≠ i ∧ badQ l i k → Q_CornersFault_b3 l i (a, b) (k : Int) = some (.inr (.inr 13))) ∧ (¬ (k ≠ i ∧ badQ l i k) → Q_CornersFault_b3 l i (a, b) (k : Int) = some (.inl ((k : Int) + 1))) := by
  obtain ⟨c, d, c1, c4, c5, c6, c7⟩ := Qedge_at l hk (by omega)
  rw [Q_CornersFault_b3, if_pos (by omega), c1]
  simp only [Option.bind_some]
  unfold Q_CornersFault_j3 Q_CornersFault_j4 Q_CornersFault_j2 Q_CornersFault_j1
  rw [touches_eq (hs a a6) (hs b a7) (hs c c6) (hs d c7), onWay_eq (hs a a6) (hs b a7) (hs d c7), onWay_eq (hs c c6) (hs d c7) (hs a a6), w64_in (x := (k : Int) + 1) (by omega) (by omega)]
  have e1 : b = c ↔ pl l (i + 1) = pl l k := by rw [GS_inj, a5, c4]
  have e2 : d = a ↔ pl l (k + 1) = pl l i := by rw [GS_inj, c5, a4]
  have e3 : (k : Int) = (i : Int) ↔ k = i := by omega
  simp only [e1, e2, e3, a4, a5, c4, c5]
  unfold badQ
  by_cases k1 : k = i
  · simp [k1]
  · by_cases k2 : pl l (i + 1) = pl l k
    · simp only [k1, k2, if_true, if_false, ne_eq, not_false_eq_true, not_true_eq_false, true_and, false_and, or_false]
      constructor
      · intro h
        rw [if_pos (by simpa using h)]; rfl
      · intro h
        rw [if_neg (by simpa using h)]
    · by_cases k3 : pl l (k + 1) = pl l i
      · simp [k1, k2, k3]
      · simp only [k1, k2, k3, if_false, ne_eq, not_false_eq_true, true_and, false_and, false_or, decide_eq_true_eq]
        constructor
        · intro h; rw [if_pos h]; rfl
        · intro h; rw [if_neg h]
theorem Corners_l2_eq {l : List Spot} (hs : ∀ x ∈ l, SB x) (hl : l.length ≤ 200) : ((∃ i, 0 ≤ i ∧ i < l.length ∧ ∃ k, 0 ≤ k ∧ k < l.length ∧ k ≠ i ∧ badQ l i k) → Q_CornersFault_l2 l 0 = some 13) ∧ ((¬ ∃ i, 0 ≤ i ∧ i < l.length ∧ ∃ k, 0 ≤ k ∧ k < l.length ∧ k ≠ i ∧ badQ l i k) → Q_CornersFault_l2 l 0 = some 0) := by
  unfold Q_CornersFault_l2
  refine iter_anyP (fun x : Int => Q_CornersFault_b2 l x) (fun i => ∃ k, 0 ≤ k ∧ k < l.length ∧ k ≠ i ∧ badQ l i k) 13 0 l.length 0 (fun i _ hi => ?_) ?_ (by omega)
  · obtain ⟨a, b, a1, a4, a5, a6, a7⟩ := Qedge_at l hi (by omega)
    have e : Q_CornersFault_b2 l (i : Int) = iter (fun x : Int => Q_CornersFault_b3 l i (a, b) x) ((0 : Nat) : Int) := by
      rw [Q_CornersFault_b2, if_pos (by omega), a1]; rfl
    show (_ → Q_CornersFault_b2 l (i : Int) = _) ∧ (_ → Q_CornersFault_b2 l (i : Int) = _)
    rw [e]
    refine iter_anyP (fun x : Int => Q_CornersFault_b3 l i (a, b) x) (fun k => k ≠ i ∧ badQ l i k) (Sum.inr 13) (Sum.inl ((i : Int) + 1)) l.length 0 (fun k _ hk => Qround hs hl hi hk a4 a5 a6 a7) ?_ (by omega)
    show Q_CornersFault_b3 l i (a, b) ((l.length : Nat) : Int) = _
    rw [Q_CornersFault_b3, if_neg (by omega), w64_in (by omega) (by omega)]; rfl
  · show Q_CornersFault_b2 l ((l.length : Nat) : Int) = _
    rw [Q_CornersFault_b2, if_neg (by omega)]; rfl
/-- A fence without a fault does not meet itself. -/
theorem simple_of {l : List Spot} (hd : Dist l) (hn : 3 ≤ l.length) (h : ¬ ∃ i, 0 ≤ i ∧ i < l.length ∧ ∃ k, 0 ≤ k ∧ k < l.length ∧ k ≠ i ∧ badQ l i k) : Simple (pl l) (l.length - 3) := by
  have hi : ∀ a b : Nat, pl l a = pl l b ↔ a % l.length = b % l.length := hd.iff (by omega)
  have nq : ∀ a b : Nat, a % l.length ≠ b % l.length → ¬ badQ l a b := by
    intro a b hab hq
    refine h ⟨a % l.length, by omega, Nat.mod_lt _ (by omega), b % l.length, by omega, Nat.mod_lt _ (by omega), fun e => hab e.symm, ?_⟩
    unfold badQ at hq ⊢
    rw [pl_mod, pl_mod, pl_mod1, pl_mod1]
    exact hq
  have md : ∀ a j : Nat, 0 < j → j < l.length → a % l.length ≠ (a + j) % l.length := by
    intro a j j0 j1 e
    have h1 : (a + j) % l.length = (a % l.length + j) % l.length := by rw [Nat.mod_add_mod]
    rw [h1] at e
    have h2 := Nat.mod_lt a (show 0 < l.length by omega)
    generalize a % l.length = r at *
    by_cases hr : r + j < l.length
    · rw [Nat.mod_eq_of_lt hr] at e; omega
    · rw [Nat.mod_eq_sub_mod (by omega), Nat.mod_eq_of_lt (by omega)] at e; omega
  have en : l.length - 3 + 3 = l.length := by omega
  refine ⟨fun k => by rw [en]; exact pl_per l k, fun k e => md k 1 (by omega) (by omega) ((hi k (k + 1)).1 e), fun k e => ?_, fun k e => ?_, fun k j hj e => ?_⟩
  · exact nq k (k + 1) (md k 1 (by omega) (by omega)) (.inl ⟨rfl, .inl e⟩)
  · exact nq k (k + 1) (md k 1 (by omega) (by omega)) (.inl ⟨rfl, .inr e⟩)
  · refine nq k (k + 2 + j) (by rw [show k + 2 + j = k + (2 + j) by omega]; exact md k (2 + j) (by omega) (by omega)) (.inr ⟨?_, ?_, ?_⟩)
    · rw [Ne, hi, show k + 2 + j = k + 1 + (1 + j) by omega]; exact md (k + 1) (1 + j) (by omega) (by omega)
    · rw [Ne, hi, show k + 2 + j + 1 = k + (3 + j) by omega]
      exact fun e => md k (3 + j) (by omega) (by omega) e.symm
    · rw [show k + 2 + j + 1 = k + 3 + j by omega]
      exact meet_comm.1 e
end Go.Beacon
