/- Plain facts on what the functions compute. No program in sight. -/
import Derived.Test.YtohbdmanojgegaaDoorCore
/- Plain facts: integers that fit, lists by index, loops over a list as recursion. No program in sight. -/
set_option linter.unusedVariables false
namespace Go.Beacon
open Go Go.Eng

theorem w64_in {x : Int} (h1 : -9223372036854775808 ≤ x) (h2 : x ≤ 9223372036854775807) : w64 x = x := wrap_fits ⟨h1, h2⟩
theorem quo_pos {a b : Int} (h : 0 < b) (h0 : 0 ≤ a) (h1 : a ≤ 9223372036854775807) : quo a b = some (a / b) := by
  unfold quo
  rw [if_neg (by omega), Int.tdiv_eq_ediv_of_nonneg h0, w64_in]
  · have := Int.ediv_nonneg h0 (Int.le_of_lt h); omega
  · have := Int.ediv_le_self b h0; omega
theorem rem_pos {a b : Int} (h : 0 < b) (h0 : 0 ≤ a) : rem a b = some (a % b) := by
  unfold rem
  rw [if_neg (by omega), Int.tmod_eq_emod_of_nonneg h0]
theorem rem_ne {a b : Int} (h : b ≠ 0) : rem a b = some (a.tmod b) := by unfold rem; rw [if_neg h]
theorem quo_ne {a b : Int} (h : b ≠ 0) : quo a b = some (w64 (a.tdiv b)) := by unfold quo; rw [if_neg h]
theorem idx_lt {α : Type} (xs : List α) {i : Int} (h0 : 0 ≤ i) (h1 : i < xs.length) : ∃ x, idx xs i = some x ∧ x ∈ xs ∧ xs.drop i.toNat = x :: xs.drop (i + 1).toNat := by
  have h : i.toNat < xs.length := by omega
  refine ⟨xs[i.toNat], by unfold idx; rw [if_pos h0]; simp [h], List.getElem_mem h, ?_⟩
  rw [show (i + 1).toNat = i.toNat + 1 by omega]
  exact List.drop_eq_getElem_cons h
theorem idx_mem {α : Type} {xs : List α} {i : Int} {x : α} (h : idx xs i = some x) : x ∈ xs := List.mem_of_getElem? (idx_some h).2.2
theorem app_le {α : Type} {xs ys : List α} (h : xs.length + ys.length ≤ 1000000000) : app xs ys = some (xs ++ ys) := by unfold app; rw [if_pos h]
theorem slc_in {α : Type} {xs : List α} {l h : Int} (h0 : 0 ≤ l) (h1 : l ≤ h) (h2 : h ≤ xs.length) : slc xs l h = some ((xs.drop l.toNat).take (h.toNat - l.toNat)) := by
  unfold slc; rw [if_pos ⟨h0, h1, h2⟩]

/-- A loop over a list, with an early end. -/
def foldE {α σ A : Type} (step : σ → α → Int → Option (σ ⊕ A)) (fin : σ → Int → Option A) : List α → σ → Int → Option A
  | [], s, i => fin s i
  | x :: r, s, i => match step s x i with
    | none => none
    | some (.inl s') => foldE step fin r s' (i + 1)
    | some (.inr a) => some a

theorem iter_range {α σ A X : Type} (xs : List α) (mk : σ → Int → X) (f : X → Option (X ⊕ A)) (step : σ → α → Int → Option (σ ⊕ A)) (fin : σ → Int → Option A)
    (h1 : ∀ s (i : Int) x, 0 ≤ i → i < xs.length → idx xs i = some x → f (mk s i) = (step s x i).map (Sum.map (fun s' => mk s' (i + 1)) id))
    (h2 : ∀ s, f (mk s xs.length) = (fin s xs.length).map .inr) : ∀ (n : Nat) (s : σ) (i : Int), 0 ≤ i → i + n = xs.length → iter f (mk s i) = foldE step fin (xs.drop i.toNat) s i
  | 0, s, i, h0, hn => by
    have hi : i = xs.length := by omega
    subst hi
    rw [iter_eq, h2, map_inr_after]
    simp [foldE]
  | n + 1, s, i, h0, hn => by
    obtain ⟨x, hx, _, hd⟩ := idx_lt xs h0 (by omega)
    rw [iter_eq, h1 s i x h0 (by omega) hx, hd]
    simp only [foldE]
    cases hst : step s x i with
    | none => rfl
    | some u =>
      cases u with
      | inl s' => exact iter_range xs mk f step fin h1 h2 n s' (i + 1) (by omega) (by omega)
      | inr a => rfl

/-- The same, from the beginning. -/
theorem iter_range0 {α σ A X : Type} (xs : List α) (mk : σ → Int → X) (f : X → Option (X ⊕ A)) (step : σ → α → Int → Option (σ ⊕ A)) (fin : σ → Int → Option A)
    (h1 : ∀ s (i : Int) x, 0 ≤ i → i < xs.length → idx xs i = some x → f (mk s i) = (step s x i).map (Sum.map (fun s' => mk s' (i + 1)) id))
    (h2 : ∀ s, f (mk s xs.length) = (fin s xs.length).map .inr) (s : σ) : iter f (mk s 0) = foldE step fin xs s 0 :=
  iter_range xs mk f step fin h1 h2 xs.length s 0 (by omega) (by omega)

/-- A search: the first element at which something is found. -/
def findE {α A : Type} (g : α → Option A) (e : A) : List α → A
  | [] => e
  | x :: r => match g x with
    | some a => a
    | none => findE g e r
theorem iter_find {α A : Type} (xs : List α) (f : Int → Option (Int ⊕ A)) (g : α → Option A) (e : A) (hlen : (xs.length : Int) ≤ 4611686018427387904)
    (h1 : ∀ (i : Int) x, 0 ≤ i → i < xs.length → idx xs i = some x → f i = match g x with | some a => some (.inr a) | none => some (.inl (i + 1)))
    (h2 : f xs.length = some (.inr e)) : iter f 0 = some (findE g e xs) := by
  have h := iter_range0 xs (fun (_ : Unit) i => i) f (fun _ x _ => match g x with | some a => some (.inr a) | none => some (.inl ())) (fun _ _ => some e)
    (fun s i x h0 h3 h4 => by rw [h1 i x h0 h3 h4]; cases g x <;> rfl) (fun s => by rw [h2]; rfl) ()
  rw [h]
  clear h h1 h2 hlen
  suffices ∀ (xs : List α) (i : Int), foldE (fun (_ : Unit) x _ => match g x with | some a => some (.inr a) | none => some (.inl ())) (fun _ _ => some e) xs () i = some (findE g e xs) from this xs 0
  intro xs
  induction xs with
  | nil => intro i; rfl
  | cons x r ih =>
    intro i
    simp only [foldE, findE]
    cases g x with
    | none => exact ih (i + 1)
    | some a => rfl
theorem findE_bool {α : Type} (p : α → Bool) : ∀ (xs : List α), findE (fun x => if p x = true then none else some false) true xs = xs.all p
  | [] => rfl
  | x :: r => by
    simp only [findE, List.all_cons]
    cases hp : p x <;> simp [findE_bool p r]
end Go.Beacon

/- Plain facts of library functions, for lists of anything. No program in sight. -/
set_option linter.unusedVariables false
set_option linter.unusedSimpArgs false
namespace Go.Beacon
open Go Go.Eng

/-! slices.Equal -/
def gEqual_b1 {α : Type} [DecidableEq α] (xs ys : List α) (i : Int) : Option (Int ⊕ Bool) :=
  if i < (xs.length : Int) then
    (idx xs i).bind fun v3 =>
    (idx ys i).bind fun v4 =>
    if v3 ≠ v4 then
      Option.map .inr (some false)
    else
      some (.inl (w64 (i + (1 : Int))))
  else
    Option.map .inr (some true)
noncomputable def gEqual {α : Type} [DecidableEq α] (xs ys : List α) : Option Bool :=
  if (xs.length : Int) ≠ (ys.length : Int) then
    some false
  else
    iter (fun x : Int => gEqual_b1 xs ys x) 0
theorem gEqual_loop {α : Type} [DecidableEq α] (xs ys : List α) (hl : xs.length = ys.length) (hb : (xs.length : Int) ≤ 4611686018427387904) : ∀ (n : Nat) (i : Int), 0 ≤ i → i + n = xs.length →
    iter (fun x : Int => gEqual_b1 xs ys x) i = some (decide (xs.drop i.toNat = ys.drop i.toNat))
  | 0, i, h0, hn => by
    rw [iter_eq, gEqual_b1, if_neg (by omega), List.drop_of_length_le (by omega), List.drop_of_length_le (by omega)]; simp
  | n + 1, i, h0, hn => by
    obtain ⟨x, hx, _, hd⟩ := idx_lt xs h0 (by omega)
    obtain ⟨y, hy, _, hd'⟩ := idx_lt ys h0 (by omega)
    rw [iter_eq, gEqual_b1, if_pos (by omega), hx, hy, hd, hd']
    simp only [Option.bind_some]
    by_cases hxy : x = y
    · subst hxy
      rw [if_neg (by simp)]
      simp only [Option.bind_some, after_inl]
      rw [w64_in (by omega) (by omega)]
      have := gEqual_loop xs ys hl hb n (i + 1) (by omega) (by omega)
      rw [this]; simp
    · rw [if_pos hxy]; simp [hxy]
theorem gEqual_eq {α : Type} [DecidableEq α] (xs ys : List α) (hb : (xs.length : Int) ≤ 4611686018427387904) : gEqual xs ys = some (decide (xs = ys)) := by
  unfold gEqual
  by_cases h : xs.length = ys.length
  · rw [if_neg (by omega), gEqual_loop xs ys h hb xs.length 0 (by omega) (by omega)]; simp
  · rw [if_pos (by omega), decide_eq_false (fun e => h (by rw [e]))]

/-! the first number that is not 0 -/
def gOr_b1 (xs : List Int) (i : Int) : Option (Int ⊕ Int) :=
  if i < (xs.length : Int) then
    (idx xs i).bind fun v3 =>
    if v3 ≠ (0 : Int) then
      Option.map .inr (some v3)
    else
      some (.inl (w64 (i + (1 : Int))))
  else
    Option.map .inr (some (0 : Int))
noncomputable def gOr (xs : List Int) : Option Int := iter (fun x : Int => gOr_b1 xs x) 0
def orL : List Int → Int
  | [] => 0
  | x :: r => if x ≠ 0 then x else orL r
theorem gOr_eq (xs : List Int) (hb : (xs.length : Int) ≤ 4611686018427387904) : gOr xs = some (orL xs) := by
  unfold gOr
  rw [iter_find xs (fun x : Int => gOr_b1 xs x) (fun x => if x ≠ 0 then some x else none) 0 hb]
  · congr 1
    clear hb
    induction xs with
    | nil => rfl
    | cons x r ih =>
      simp only [findE, orL]
      by_cases h : x = 0
      · subst h; simpa using ih
      · simp [h]
  · intro i x h0 h1 hx
    unfold gOr_b1
    rw [if_pos h1, hx]
    simp only [Option.bind_some]
    by_cases h : x = 0
    · rw [w64_in (by omega) (by omega)]; simp [h]
    · simp [h]
  · unfold gOr_b1; rw [if_neg (by omega)]; rfl

/-! comparing -/
def cmpI (a b : Int) : Int := if a < b then -1 else if b < a then 1 else 0
/-! bytes -/
theorem indexByte_nonneg : ∀ (l : List UInt8) (c : UInt8), (Lib.indexByte l c < 0) ↔ c ∉ l
  | [], c => by simp [Lib.indexByte]
  | b :: l, c => by
    have ih := indexByte_nonneg l c
    have hge := Lib.indexByte_ge l c
    simp only [Lib.indexByte, List.mem_cons, not_or]
    by_cases hb : b = c
    · subst hb; simp
    · rw [if_neg (by simpa using hb)]
      by_cases h1 : Lib.indexByte l c = -1
      · rw [h1] at ih
        simp only [h1, beq_self_eq_true, if_true]
        exact ⟨fun _ => ⟨fun e => hb e.symm, ih.1 (by omega)⟩, fun _ => by omega⟩
      · rw [if_neg (by simpa using h1)]
        exact ⟨fun h => by omega, fun h => absurd (ih.2 h.2) (by omega)⟩
theorem toU8 (c : UInt8) : ((c.toNat : Int)).toNat.toUInt8 = c := by simp
end Go.Beacon

/- Closed ways that do not meet themselves go round a spot at most once. No program in sight. -/
set_option linter.unusedVariables false
namespace Go.Beacon
/-- A spot of the plane. -/
structure GP where
  x : Int
  y : Int
deriving DecidableEq
def sd (a b s : GP) : Int := (b.x - a.x) * (s.y - a.y) - (b.y - a.y) * (s.x - a.x)
def btw (a b s : Int) : Prop := (a ≤ s ∧ s ≤ b) ∨ (b ≤ s ∧ s ≤ a)
def onS (a b s : GP) : Prop := sd a b s = 0 ∧ btw a.x b.x s.x ∧ btw a.y b.y s.y
def opp (x y : Int) : Prop := (x < 0 ∧ 0 < y) ∨ (0 < x ∧ y < 0)
def meet (a b c d : GP) : Prop := onS a b c ∨ onS a b d ∨ onS c d a ∨ onS c d b ∨ (opp (sd a b c) (sd a b d) ∧ opp (sd c d a) (sd c d b))
def cr (a b q : GP) : Int := if a.y ≤ q.y ∧ q.y < b.y ∧ 0 < sd a b q then 1 else if b.y ≤ q.y ∧ q.y < a.y ∧ sd a b q < 0 then -1 else 0
def ph (q r p : GP) : Int := if q.y < p.y ∧ p.y ≤ r.y ∧ sd q r p < 0 then 1 else if r.y < p.y ∧ p.y ≤ q.y ∧ 0 < sd q r p then -1 else 0

theorem sd_swap (a b s : GP) : sd b a s = - sd a b s := by unfold sd; grind
theorem sd_rot (a b s : GP) : sd b s a = sd a b s := by unfold sd; grind
theorem sd_aa (a s : GP) : sd a a s = 0 := by unfold sd; grind
theorem sd_l (a b : GP) : sd a b a = 0 := by unfold sd; grind
theorem sd_r (a b : GP) : sd a b b = 0 := by unfold sd; grind
theorem btw_swap {a b s : Int} : btw a b s ↔ btw b a s := by unfold btw; omega
theorem onS_swap {a b s : GP} : onS a b s ↔ onS b a s := by
  unfold onS
  rw [sd_swap a b s, btw_swap (a := a.x), btw_swap (a := a.y)]
  constructor <;> rintro ⟨h1, h2⟩ <;> exact ⟨by omega, h2⟩
theorem opp_neg {x y : Int} : opp (-x) (-y) ↔ opp x y := by unfold opp; omega
theorem opp_comm {x y : Int} : opp x y ↔ opp y x := by unfold opp; omega
theorem meet_swap1 {a b c d : GP} : meet a b c d ↔ meet b a c d := by
  unfold meet
  rw [onS_swap (a := a) (b := b) (s := c), onS_swap (a := a) (b := b) (s := d), sd_swap a b c, sd_swap a b d, opp_neg, opp_comm (x := sd c d a)]
  constructor <;> (rintro (h | h | h | h | h) <;> simp [h])
theorem meet_comm {a b c d : GP} : meet a b c d ↔ meet c d a b := by
  unfold meet
  constructor <;> (rintro (h | h | h | h | ⟨h, h'⟩) <;> simp [*])
theorem meet_swap2 {a b c d : GP} : meet a b c d ↔ meet a b d c := by
  rw [meet_comm, meet_swap1, meet_comm]
theorem cr_swap (a b q : GP) : cr b a q = - cr a b q := by
  unfold cr; rw [sd_swap a b q]
  repeat' split
  all_goals omega
theorem ph_swap (q r p : GP) : ph r q p = - ph q r p := by
  unfold ph; rw [sd_swap q r p]
  repeat' split
  all_goals omega

theorem mul_neg_r {u P : Int} (hu : 0 < u) (h : u * P < 0) : P < 0 := Int.neg_of_mul_neg_right h (by omega)
theorem mul_pos_r {u P : Int} (hu : 0 < u) (h : 0 < u * P) : 0 < P := by
  have : u * (-P) < 0 := by rw [Int.mul_neg]; omega
  have := mul_neg_r hu this; omega
theorem mul_zero_r {u P : Int} (hu : 0 < u) (h : u * P = 0) : P = 0 := by
  rcases Int.mul_eq_zero.1 h with h | h <;> omega
theorem sgn1 {u v w P Q R : Int} (hu : 0 < u) (hv : 0 ≤ v) (hw : 0 < w) (h : u * P + v * Q = -(w * R)) (hQ : 0 ≤ Q) (hR : 0 < R) : P < 0 := by
  have h1 := Int.mul_nonneg hv hQ
  have h2 := Int.mul_pos hw hR
  exact mul_neg_r hu (by omega)
theorem sgn2 {u v w P Q R : Int} (hu : 0 < u) (hv : 0 ≤ v) (hw : 0 < w) (h : u * P + v * Q = -(w * R)) (hQ : Q ≤ 0) (hR : R < 0) : 0 < P := by
  have := sgn1 (P := -P) (Q := -Q) (R := -R) hu hv hw (by simp only [Int.mul_neg]; omega) (by omega) (by omega)
  omega
theorem I1 (a b q r : GP) : (b.y - q.y) * sd a b r + (r.y - b.y) * sd a b q = -((b.y - a.y) * sd q r b) := by unfold sd; grind
theorem I2 (a b q r : GP) : (a.y - q.y) * sd a b r + (r.y - a.y) * sd a b q = -((b.y - a.y) * sd q r a) := by unfold sd; grind
theorem I0 (a b q r : GP) : sd a b r - sd a b q = sd q r a - sd q r b := by unfold sd; grind
/-- A spot on the line, at a height of the way, is on the way. -/
theorem on_of_h {a b s : GP} (h : sd a b s = 0) (h1 : btw a.y b.y s.y) (h2 : a.y ≠ b.y) : onS a b s := by
  refine ⟨h, ?_, h1⟩
  have key : ∀ {a b s : GP}, sd a b s = 0 → a.y ≤ s.y → s.y ≤ b.y → a.y < b.y → btw a.x b.x s.x := by
    intro a b s h h1 h2 h3
    unfold sd at h
    have e1 : (b.y - a.y) * (s.x - a.x) = (b.x - a.x) * (s.y - a.y) := by omega
    have e2 : (b.y - a.y) * (b.x - s.x) = (b.x - a.x) * (b.y - s.y) := by grind
    unfold btw
    rcases Int.le_total a.x b.x with k | k
    · left
      have p1 := Int.mul_nonneg (show 0 ≤ b.x - a.x by omega) (show 0 ≤ s.y - a.y by omega)
      have p2 := Int.mul_nonneg (show 0 ≤ b.x - a.x by omega) (show 0 ≤ b.y - s.y by omega)
      constructor
      · have : ¬ s.x - a.x < 0 := fun k => by have := Int.mul_neg_of_pos_of_neg (show 0 < b.y - a.y by omega) k; omega
        omega
      · have : ¬ b.x - s.x < 0 := fun k => by have := Int.mul_neg_of_pos_of_neg (show 0 < b.y - a.y by omega) k; omega
        omega
    · right
      have p1 := Int.mul_nonneg (show 0 ≤ a.x - b.x by omega) (show 0 ≤ s.y - a.y by omega)
      have p2 := Int.mul_nonneg (show 0 ≤ a.x - b.x by omega) (show 0 ≤ b.y - s.y by omega)
      have f1 : (b.x - a.x) * (s.y - a.y) = -((a.x - b.x) * (s.y - a.y)) := by grind
      have f2 : (b.x - a.x) * (b.y - s.y) = -((a.x - b.x) * (b.y - s.y)) := by grind
      constructor
      · have : ¬ 0 < b.x - s.x := fun k => by have := Int.mul_pos (show 0 < b.y - a.y by omega) k; omega
        omega
      · have : ¬ 0 < s.x - a.x := fun k => by have := Int.mul_pos (show 0 < b.y - a.y by omega) k; omega
        omega
  rcases h1 with ⟨k1, k2⟩ | ⟨k1, k2⟩
  · exact key h k1 k2 (by omega)
  · exact btw_swap.1 (key (a := b) (b := a) (by rw [sd_swap]; omega) k1 k2 (by omega))
/-- The same for ways that lie flat. -/
theorem on_flat {a b s : GP} (h1 : a.y = s.y) (h2 : b.y = s.y) (h3 : btw a.x b.x s.x) : onS a b s := by
  refine ⟨?_, h3, by unfold btw; omega⟩
  unfold sd; rw [h1, h2]; simp
theorem sd_flat {a b s : GP} (h : a.y = s.y) : sd a b s = -((b.y - a.y) * (s.x - a.x)) := by unfold sd; rw [h]; simp
theorem sd_flat2 {a b s : GP} (h : b.y = s.y) : sd a b s = (b.y - a.y) * (b.x - s.x) := by unfold sd; rw [← h]; grind

/-! two ways that do not meet -/
theorem C1p {a b q r : GP} (h1 : a.y ≤ q.y) (h2 : q.y < b.y) (h3 : b.y ≤ r.y) (k1 : 0 < sd a b q) (k2 : 0 < sd q r b) : meet a b q r := by
  have e1 := sgn1 (u := b.y - q.y) (v := r.y - b.y) (w := b.y - a.y) (by omega) (by omega) (by omega) (I1 a b q r) (by omega) k2
  have e2 : sd q r a < 0 := by
    have i3 := I2 q r a b
    refine sgn1 (u := b.y - q.y) (v := q.y - a.y) (w := r.y - q.y) (P := sd q r a) (Q := sd q r b) (R := sd a b q) (by omega) (by omega) (by omega) ?_ (by omega) k1
    omega
  exact .inr (.inr (.inr (.inr ⟨.inr ⟨k1, e1⟩, .inl ⟨e2, k2⟩⟩)))
theorem C1n {a b q r : GP} (h1 : a.y ≤ q.y) (h2 : q.y < b.y) (h3 : b.y ≤ r.y) (k1 : sd a b q < 0) (k2 : sd q r b < 0) : meet a b q r := by
  have e1 := sgn2 (u := b.y - q.y) (v := r.y - b.y) (w := b.y - a.y) (by omega) (by omega) (by omega) (I1 a b q r) (by omega) k2
  have e2 : 0 < sd q r a := by
    have i3 := I2 q r a b
    refine sgn2 (u := b.y - q.y) (v := q.y - a.y) (w := r.y - q.y) (P := sd q r a) (Q := sd q r b) (R := sd a b q) (by omega) (by omega) (by omega) ?_ (by omega) k1
    omega
  exact .inr (.inr (.inr (.inr ⟨.inl ⟨k1, e1⟩, .inr ⟨e2, k2⟩⟩)))
/-- The way ab spans the heights of qr, with its ends on both sides. -/
theorem C2p {a b q r : GP} (h1 : a.y ≤ q.y) (h2 : q.y ≤ r.y) (h3 : r.y < b.y) (k1 : 0 < sd a b q) (k2 : sd a b r < 0) : meet a b q r := by
  have i0 := I0 a b q r
  have i3 := I2 q r a b
  have i4 := I1 q r a b
  by_cases hq : a.y = r.y
  · have hq' : a.y = q.y := by omega
    rw [sd_flat hq'] at k1
    rw [sd_flat hq] at k2
    have p1 : q.x - a.x < 0 := mul_neg_r (u := b.y - a.y) (by omega) (by omega)
    have p2 : 0 < r.x - a.x := mul_pos_r (u := b.y - a.y) (by omega) (by omega)
    exact .inr (.inr (.inl (on_flat hq'.symm (by omega) (.inl ⟨by omega, by omega⟩))))
  · by_cases hqa : q.y = a.y ∧ q.y = r.y
    · omega
    have hB : sd q r a < sd q r b := by omega
    have e1 : sd q r a < 0 := by
      have : ¬ 0 ≤ sd q r a := by
        intro h
        have p1 := Int.mul_nonneg (show 0 ≤ b.y - q.y by omega) h
        have p2 := Int.mul_nonneg (show 0 ≤ q.y - a.y by omega) (show 0 ≤ sd q r b by omega)
        have p3 := Int.mul_nonneg (show 0 ≤ r.y - q.y by omega) (show 0 ≤ sd a b q by omega)
        by_cases h0 : q.y = r.y
        · have p4 := Int.mul_pos (show 0 < q.y - a.y by omega) (show 0 < sd q r b by omega)
          omega
        · have p4 := Int.mul_pos (show 0 < r.y - q.y by omega) k1
          omega
      omega
    have e2 : 0 < sd q r b := by
      have : ¬ sd q r b ≤ 0 := by
        intro h
        have p1 := Int.mul_nonneg (show 0 ≤ b.y - r.y by omega) (show 0 ≤ -sd q r a by omega)
        have p2 := Int.mul_nonneg (show 0 ≤ r.y - a.y by omega) (show 0 ≤ -sd q r b by omega)
        have p3 := Int.mul_nonneg (show 0 ≤ r.y - q.y by omega) (show 0 ≤ -sd a b r by omega)
        have p4 := Int.mul_pos (show 0 < b.y - r.y by omega) (show 0 < -sd q r a by omega)
        simp only [Int.mul_neg] at p1 p2 p3 p4
        omega
      omega
    exact .inr (.inr (.inr (.inr ⟨.inr ⟨k1, k2⟩, .inl ⟨e1, e2⟩⟩)))
/-! mirrors -/
def mx (p : GP) : GP := ⟨-p.x, p.y⟩
def rt (p : GP) : GP := ⟨-p.x, -p.y⟩
theorem sd_mx (a b s : GP) : sd (mx a) (mx b) (mx s) = - sd a b s := by unfold sd mx; grind
theorem sd_rt (a b s : GP) : sd (rt a) (rt b) (rt s) = sd a b s := by unfold sd rt; grind
theorem btw_neg {a b s : Int} : btw (-a) (-b) (-s) ↔ btw a b s := by unfold btw; omega
theorem onS_mx {a b s : GP} : onS (mx a) (mx b) (mx s) ↔ onS a b s := by
  unfold onS; rw [sd_mx, show (mx a).x = -a.x from rfl, show (mx b).x = -b.x from rfl, show (mx s).x = -s.x from rfl, btw_neg]
  constructor <;> rintro ⟨h1, h2⟩ <;> exact ⟨by omega, h2⟩
theorem onS_rt {a b s : GP} : onS (rt a) (rt b) (rt s) ↔ onS a b s := by
  unfold onS; rw [sd_rt, show (rt a).x = -a.x from rfl, show (rt b).x = -b.x from rfl, show (rt s).x = -s.x from rfl, show (rt a).y = -a.y from rfl, show (rt b).y = -b.y from rfl, show (rt s).y = -s.y from rfl, btw_neg, btw_neg]
theorem meet_mx {a b c d : GP} : meet (mx a) (mx b) (mx c) (mx d) ↔ meet a b c d := by
  unfold meet; simp only [onS_mx, sd_mx, opp_neg]
theorem meet_rt {a b c d : GP} : meet (rt a) (rt b) (rt c) (rt d) ↔ meet a b c d := by
  unfold meet; simp only [onS_rt, sd_rt]
theorem C2n {a b q r : GP} (h1 : a.y ≤ q.y) (h2 : q.y ≤ r.y) (h3 : r.y < b.y) (k1 : sd a b q < 0) (k2 : 0 < sd a b r) : meet a b q r :=
  meet_mx.1 (C2p (a := mx a) (b := mx b) (q := mx q) (r := mx r) h1 h2 h3 (by rw [sd_mx]; omega) (by rw [sd_mx]; omega))
theorem C3 {a b q r : GP} (h1 : q.y < a.y) (h2 : a.y ≤ b.y) (h3 : b.y ≤ r.y) (k : opp (sd q r a) (sd q r b)) : meet a b q r := by
  have key : meet (rt r) (rt q) (rt b) (rt a) := by
    have e1 : sd (rt r) (rt q) (rt b) = - sd q r b := by rw [sd_rt, sd_swap]
    have e2 : sd (rt r) (rt q) (rt a) = - sd q r a := by rw [sd_rt, sd_swap]
    rcases k with ⟨k1, k2⟩ | ⟨k1, k2⟩
    · exact C2n (by unfold rt; simp only; omega) (by unfold rt; simp only; omega) (by unfold rt; simp only; omega) (by omega) (by omega)
    · exact C2p (by unfold rt; simp only; omega) (by unfold rt; simp only; omega) (by unfold rt; simp only; omega) (by omega) (by omega)
  exact meet_swap1.1 (meet_swap2.1 (meet_comm.1 (meet_rt.1 key)))
theorem C4 {a b q r : GP} (h1 : q.y < a.y) (h2 : a.y ≤ r.y) (h3 : r.y < b.y) (k : (0 < sd a b r ∧ 0 < sd q r a) ∨ (sd a b r < 0 ∧ sd q r a < 0)) : meet a b q r := by
  by_cases h : a.y = r.y
  · rw [sd_flat h, sd_flat2 h.symm] at k
    exfalso
    rcases k with ⟨k1, k2⟩ | ⟨k1, k2⟩
    · have p1 : r.x - a.x < 0 := mul_neg_r (u := b.y - a.y) (by omega) (by omega)
      have p2 : 0 < r.x - a.x := mul_pos_r (u := r.y - q.y) (by omega) (by omega)
      omega
    · have p1 : 0 < r.x - a.x := mul_pos_r (u := b.y - a.y) (by omega) (by omega)
      have p2 : r.x - a.x < 0 := mul_neg_r (u := r.y - q.y) (by omega) (by omega)
      omega
  · rcases k with ⟨k1, k2⟩ | ⟨k1, k2⟩
    · exact meet_comm.1 (C1p (a := q) (b := r) (q := a) (r := b) (by omega) (by omega) (by omega) k2 k1)
    · exact meet_comm.1 (C1n (a := q) (b := r) (q := a) (r := b) (by omega) (by omega) (by omega) k2 k1)
theorem seg0 {a b q r : GP} (hab : a.y ≤ b.y) (hqr : q.y ≤ r.y) (h : ¬ meet a b q r) : cr a b q - cr a b r = ph q r b - ph q r a := by
  have nq : a.y ≤ q.y → q.y < b.y → sd a b q ≠ 0 := fun h1 h2 h0 => h (.inl (on_of_h h0 (.inl ⟨h1, by omega⟩) (by omega)))
  have nr : a.y ≤ r.y → r.y < b.y → sd a b r ≠ 0 := fun h1 h2 h0 => h (.inr (.inl (on_of_h h0 (.inl ⟨h1, by omega⟩) (by omega))))
  have na : q.y < a.y → a.y ≤ r.y → sd q r a ≠ 0 := fun h1 h2 h0 => h (.inr (.inr (.inl (on_of_h h0 (.inl ⟨by omega, h2⟩) (by omega)))))
  have nb : q.y < b.y → b.y ≤ r.y → sd q r b ≠ 0 := fun h1 h2 h0 => h (.inr (.inr (.inr (.inl (on_of_h h0 (.inl ⟨by omega, h2⟩) (by omega))))))
  have e1 : cr a b q = if a.y ≤ q.y ∧ q.y < b.y ∧ 0 < sd a b q then 1 else 0 := by
    unfold cr
    repeat' split
    all_goals omega
  have e2 : cr a b r = if a.y ≤ r.y ∧ r.y < b.y ∧ 0 < sd a b r then 1 else 0 := by
    unfold cr
    repeat' split
    all_goals omega
  have e3 : ph q r a = if q.y < a.y ∧ a.y ≤ r.y ∧ sd q r a < 0 then 1 else 0 := by
    unfold ph
    repeat' split
    all_goals omega
  have e4 : ph q r b = if q.y < b.y ∧ b.y ≤ r.y ∧ sd q r b < 0 then 1 else 0 := by
    unfold ph
    repeat' split
    all_goals omega
  rw [e1, e2, e3, e4]
  by_cases c1 : a.y ≤ q.y
  · by_cases c2 : q.y < b.y
    · by_cases c3 : b.y ≤ r.y
      · have n1 := nq c1 c2
        have n2 := nb c2 c3
        have x1 : ¬ (0 < sd a b q ∧ 0 < sd q r b) := fun k => h (C1p c1 c2 c3 k.1 k.2)
        have x2 : ¬ (sd a b q < 0 ∧ sd q r b < 0) := fun k => h (C1n c1 c2 c3 k.1 k.2)
        repeat' split
        all_goals omega
      · have n1 := nq c1 c2
        have n2 := nr (by omega) (by omega)
        have x1 : ¬ (0 < sd a b q ∧ sd a b r < 0) := fun k => h (C2p c1 hqr (by omega) k.1 k.2)
        have x2 : ¬ (sd a b q < 0 ∧ 0 < sd a b r) := fun k => h (C2n c1 hqr (by omega) k.1 k.2)
        repeat' split
        all_goals omega
    · repeat' split
      all_goals omega
  · by_cases c2 : a.y ≤ r.y
    · by_cases c3 : b.y ≤ r.y
      · have n1 := na (by omega) c2
        have n2 := nb (by omega) c3
        have x1 : ¬ opp (sd q r a) (sd q r b) := fun k => h (C3 (by omega) hab c3 k)
        unfold opp at x1
        repeat' split
        all_goals omega
      · have n1 := na (by omega) c2
        have n2 := nr c2 (by omega)
        have x1 : ¬ ((0 < sd a b r ∧ 0 < sd q r a) ∨ (sd a b r < 0 ∧ sd q r a < 0)) := fun k => h (C4 (by omega) c2 (by omega) k)
        repeat' split
        all_goals omega
    · repeat' split
      all_goals omega
/-- Two ways that do not meet: as a spot goes along one, what the other counts for it changes by the ends that it sweeps. -/
theorem seg {a b q r : GP} (h : ¬ meet a b q r) : cr a b q - cr a b r = ph q r b - ph q r a := by
  have key : ∀ {a b q r : GP}, a.y ≤ b.y → ¬ meet a b q r → cr a b q - cr a b r = ph q r b - ph q r a := by
    intro a b q r hab h
    by_cases hq : q.y ≤ r.y
    · exact seg0 hab hq h
    · have := seg0 (a := a) (b := b) (q := r) (r := q) hab (by omega) (fun k => h (meet_swap2.1 k))
      rw [ph_swap q r a, ph_swap q r b] at this
      omega
  by_cases hab : a.y ≤ b.y
  · exact key hab h
  · have := key (a := b) (b := a) (q := q) (r := r) (by omega) (fun k => h (meet_swap1.1 k))
    rw [cr_swap a b q, cr_swap a b r] at this
    omega
/-! at a corner -/
def kp (a b : GP) : Int := if a.y < b.y ∨ (a.y = b.y ∧ b.x < a.x) then 1 else 0
def mo (z a b : GP) : Int := cr z a b - ph a b z
def mi (a b c : GP) : Int := cr b c a - ph a b c
theorem pos_mul {u v : Int} (hu : 0 < u) : (0 < u * v ↔ 0 < v) ∧ (u * v < 0 ↔ v < 0) := by
  refine ⟨⟨mul_pos_r hu, Int.mul_pos hu⟩, ⟨mul_neg_r hu, Int.mul_neg_of_pos_of_neg hu⟩⟩
theorem neg_mul_s {u v : Int} (hu : u < 0) : (0 < u * v ↔ v < 0) ∧ (u * v < 0 ↔ 0 < v) := by
  have := pos_mul (u := -u) (v := v) (by omega)
  rw [Int.neg_mul] at this
  omega
theorem mi_up {a b c : GP} (h : a.y < b.y) : mi a b c = if c.y ≤ b.y ∧ sd a b c < 0 then -1 else 0 := by
  unfold mi cr ph; rw [sd_rot a b c]
  repeat' split
  all_goals omega
theorem mi_dn {a b c : GP} (h : b.y ≤ a.y) : mi a b c = if b.y < c.y ∧ 0 < sd a b c then 1 else 0 := by
  unfold mi cr ph; rw [sd_rot a b c]
  repeat' split
  all_goals omega
theorem mo_up {a b c : GP} (h : b.y ≤ c.y) : mo a b c = if b.y < a.y ∧ sd a b c < 0 then -1 else 0 := by
  unfold mo cr ph; rw [sd_rot a b c]
  repeat' split
  all_goals omega
theorem mo_dn {a b c : GP} (h : c.y < b.y) : mo a b c = if a.y ≤ b.y ∧ 0 < sd a b c then 1 else 0 := by
  unfold mo cr ph; rw [sd_rot a b c]
  repeat' split
  all_goals omega
theorem corner {a b c : GP} (h1 : ¬ onS a b c) (h2 : ¬ onS b c a) (h3 : a ≠ b) (h4 : b ≠ c) : mi a b c + kp a b = mo a b c + kp b c := by
  have r1 : sd b c a = sd a b c := sd_rot a b c
  have ab : a.y = b.y → a.x ≠ b.x := fun h k => h3 (by cases a; cases b; simp_all)
  have bc : b.y = c.y → b.x ≠ c.x := fun h k => h4 (by cases b; cases c; simp_all)
  have z1 : a.y < b.y → c.y < b.y → sd a b c ≠ 0 := by
    intro k1 k2 k3
    by_cases k : a.y ≤ c.y
    · exact h1 (on_of_h k3 (.inl ⟨k, by omega⟩) (by omega))
    · exact h2 (on_of_h (by omega) (.inr ⟨by omega, by omega⟩) (by omega))
  have z2 : b.y < a.y → b.y < c.y → sd a b c ≠ 0 := by
    intro k1 k2 k3
    by_cases k : c.y ≤ a.y
    · exact h1 (on_of_h k3 (.inr ⟨by omega, k⟩) (by omega))
    · exact h2 (on_of_h (by omega) (.inl ⟨by omega, by omega⟩) (by omega))
  have f1 : a.y = b.y → b.y < c.y → ((0 < sd a b c ↔ a.x < b.x) ∧ (sd a b c < 0 ↔ b.x < a.x)) := by
    intro k1 k2
    have e : sd a b c = (c.y - a.y) * (b.x - a.x) := by unfold sd; rw [k1]; grind
    rw [e]
    have := pos_mul (u := c.y - a.y) (v := b.x - a.x) (by omega)
    omega
  have f2 : a.y = b.y → c.y < b.y → ((0 < sd a b c ↔ b.x < a.x) ∧ (sd a b c < 0 ↔ a.x < b.x)) := by
    intro k1 k2
    have e : sd a b c = (c.y - a.y) * (b.x - a.x) := by unfold sd; rw [k1]; grind
    rw [e]
    have := neg_mul_s (u := c.y - a.y) (v := b.x - a.x) (by omega)
    omega
  have f3 : b.y = c.y → a.y < b.y → ((0 < sd a b c ↔ c.x < b.x) ∧ (sd a b c < 0 ↔ b.x < c.x)) := by
    intro k1 k2
    rw [sd_flat2 k1]
    have := pos_mul (u := b.y - a.y) (v := b.x - c.x) (by omega)
    omega
  have f4 : b.y = c.y → b.y < a.y → ((0 < sd a b c ↔ b.x < c.x) ∧ (sd a b c < 0 ↔ c.x < b.x)) := by
    intro k1 k2
    rw [sd_flat2 k1]
    have := neg_mul_s (u := b.y - a.y) (v := b.x - c.x) (by omega)
    omega
  have g : a.y = b.y → b.y = c.y → ((b.x < a.x) ↔ (c.x < b.x)) := by
    intro k1 k2
    have n1 := ab k1
    have n2 := bc k2
    have m1 : ¬ btw a.x b.x c.x := fun k => h1 (on_flat (by omega) (by omega) k)
    have m2 : ¬ btw b.x c.x a.x := fun k => h2 (on_flat (by omega) (by omega) k)
    unfold btw at m1 m2
    omega
  unfold kp
  rcases Int.lt_trichotomy a.y b.y with k | k | k
  · rw [mi_up k]
    rcases Int.lt_trichotomy b.y c.y with k' | k' | k'
    · rw [mo_up (by omega)]
      repeat' split
      all_goals omega
    · rw [mo_up (by omega)]
      have := f3 k' k
      have := bc k'
      repeat' split
      all_goals omega
    · rw [mo_dn k']
      have := z1 k k'
      repeat' split
      all_goals omega
  · rw [mi_dn (by omega)]
    rcases Int.lt_trichotomy b.y c.y with k' | k' | k'
    · rw [mo_up (by omega)]
      have := f1 k k'
      have := ab k
      repeat' split
      all_goals omega
    · rw [mo_up (by omega)]
      have := g k k'
      repeat' split
      all_goals omega
    · rw [mo_dn k']
      have := f2 k k'
      have := ab k
      repeat' split
      all_goals omega
  · rw [mi_dn (by omega)]
    rcases Int.lt_trichotomy b.y c.y with k' | k' | k'
    · rw [mo_up (by omega)]
      have := z2 k k'
      repeat' split
      all_goals omega
    · rw [mo_up (by omega)]
      have := f4 k' k
      have := bc k'
      repeat' split
      all_goals omega
    · rw [mo_dn k']
      repeat' split
      all_goals omega
/-! sums -/
def Sm (f : Nat → Int) : Nat → Int
  | 0 => 0
  | n + 1 => Sm f n + f n
theorem Sm_congr {f g : Nat → Int} : ∀ {n : Nat}, (∀ i, i < n → f i = g i) → Sm f n = Sm g n
  | 0, _ => rfl
  | n + 1, h => by simp only [Sm]; rw [Sm_congr (fun i hi => h i (by omega)), h n (by omega)]
theorem Sm_sub (f g : Nat → Int) : ∀ n, Sm (fun i => f i - g i) n = Sm f n - Sm g n
  | 0 => rfl
  | n + 1 => by simp only [Sm]; rw [Sm_sub f g n]; omega
theorem Sm_tel (f : Nat → Int) : ∀ n, Sm (fun i => f (i + 1) - f i) n = f n - f 0
  | 0 => by simp [Sm]
  | n + 1 => by simp only [Sm]; rw [Sm_tel f n]; omega
theorem Sm_head (f : Nat → Int) : ∀ n, Sm f (n + 1) = f 0 + Sm (fun i => f (i + 1)) n
  | 0 => by simp [Sm]
  | n + 1 => by
    have := Sm_head f n
    simp only [Sm] at this ⊢
    omega
/-- A closed way of n corners (n = m + 3) that does not meet itself. -/
structure Simple (p : Nat → GP) (m : Nat) : Prop where
  per : ∀ k, p (k + (m + 3)) = p k
  ne : ∀ k, p k ≠ p (k + 1)
  adj1 : ∀ k, ¬ onS (p k) (p (k + 1)) (p (k + 2))
  adj2 : ∀ k, ¬ onS (p (k + 1)) (p (k + 2)) (p k)
  non : ∀ k j, j < m → ¬ meet (p (k + 2 + j)) (p (k + 3 + j)) (p k) (p (k + 1))
/-- What the edges that are not at corner k count for it. -/
def VV (p : Nat → GP) (m k : Nat) : Int := Sm (fun j => cr (p (k + 1 + j)) (p (k + 2 + j)) (p k)) (m + 1)
theorem edge_rel {p : Nat → GP} {m : Nat} (h : Simple p m) (k : Nat) : VV p m k + mo (p (k + (m + 2))) (p k) (p (k + 1)) = VV p m (k + 1) + mi (p k) (p (k + 1)) (p (k + 2)) := by
  have e1 : VV p m k = cr (p (k + 1)) (p (k + 2)) (p k) + Sm (fun j => cr (p (k + 2 + j)) (p (k + 3 + j)) (p k)) m := by
    unfold VV
    rw [Sm_head]
    congr 1
    exact Sm_congr (fun i _ => by rw [show k + 1 + (i + 1) = k + 2 + i by omega, show k + 2 + (i + 1) = k + 3 + i by omega])
  have e2 : VV p m (k + 1) = Sm (fun j => cr (p (k + 2 + j)) (p (k + 3 + j)) (p (k + 1))) m + cr (p (k + (m + 2))) (p k) (p (k + 1)) := by
    unfold VV
    simp only [Sm]
    rw [show k + 1 + 1 + m = k + (m + 2) by omega, show k + 1 + 2 + m = k + (m + 3) by omega, h.per k]
  have e3 : Sm (fun j => cr (p (k + 2 + j)) (p (k + 3 + j)) (p k) - cr (p (k + 2 + j)) (p (k + 3 + j)) (p (k + 1))) m = ph (p k) (p (k + 1)) (p (k + (m + 2))) - ph (p k) (p (k + 1)) (p (k + 2)) := by
    have t := Sm_tel (fun i => ph (p k) (p (k + 1)) (p (k + 2 + i))) m
    simp only [Nat.add_zero] at t
    rw [show k + 2 + m = k + (m + 2) by omega] at t
    rw [← t]
    refine Sm_congr (fun i hi => ?_)
    rw [show k + 2 + (i + 1) = k + 3 + i by omega]
    exact seg (h.non k i hi)
  rw [Sm_sub] at e3
  unfold mo mi
  omega
/-- The number of the left side, the same at all corners. -/
def LL (p : Nat → GP) (m k : Nat) : Int := VV p m (k + 1) + mi (p k) (p (k + 1)) (p (k + 2)) + kp (p k) (p (k + 1))
theorem LL_out {p : Nat → GP} {m : Nat} (h : Simple p m) (k : Nat) : LL p m k = VV p m (k + 1) + mo (p k) (p (k + 1)) (p (k + 2)) + kp (p (k + 1)) (p (k + 2)) := by
  have := corner (h.adj1 k) (h.adj2 k) (h.ne k) (h.ne (k + 1))
  unfold LL; omega
theorem LL_step {p : Nat → GP} {m : Nat} (h : Simple p m) (k : Nat) : LL p m k = LL p m (k + 1) := by
  rw [LL_out h k]
  have := edge_rel h (k + 1)
  rw [show k + 1 + (m + 2) = k + (m + 3) by omega, h.per k] at this
  unfold LL
  rw [show k + 1 + 1 = k + 2 by omega] at *
  omega
theorem LL_all {p : Nat → GP} {m : Nat} (h : Simple p m) : ∀ k, LL p m k = LL p m 0
  | 0 => rfl
  | k + 1 => by rw [← LL_step h k]; exact LL_all h k
/-! ways that share a spot -/
theorem gp_ext {a b : GP} (h1 : a.x = b.x) (h2 : a.y = b.y) : a = b := by cases a; cases b; simp_all
theorem bary {c d v : GP} (h : onS c d v) (hne : c ≠ d) : ∃ α β : Int, 0 ≤ α ∧ 0 ≤ β ∧ 0 < α + β ∧ (α + β) * v.x = α * c.x + β * d.x ∧ (α + β) * v.y = α * c.y + β * d.y ∧ (α = 0 → v = d) ∧ (β = 0 → v = c) := by
  obtain ⟨h0, hx, hy⟩ := h
  unfold sd at h0
  unfold btw at hx hy
  by_cases ey : c.y = d.y
  · have ex : c.x ≠ d.x := fun k => hne (gp_ext k ey)
    have vy : v.y = c.y := by omega
    rcases Int.lt_or_gt_of_ne ex with k | k
    · refine ⟨d.x - v.x, v.x - c.x, by omega, by omega, by omega, by grind, by grind, fun k => gp_ext (by omega) (by omega), fun k => gp_ext (by omega) (by omega)⟩
    · refine ⟨v.x - d.x, c.x - v.x, by omega, by omega, by omega, by grind, by grind, fun k => gp_ext (by omega) (by omega), fun k => gp_ext (by omega) (by omega)⟩
  · have hxx : v.y = d.y → v.x = d.x := by
      intro k
      have e : (d.y - c.y) * (d.x - v.x) = 0 := by grind
      rcases Int.mul_eq_zero.1 e with e | e <;> omega
    have hxc : v.y = c.y → v.x = c.x := by
      intro k
      have e : (d.y - c.y) * (v.x - c.x) = 0 := by grind
      rcases Int.mul_eq_zero.1 e with e | e <;> omega
    rcases Int.lt_or_gt_of_ne ey with k | k
    · refine ⟨d.y - v.y, v.y - c.y, by omega, by omega, by omega, by grind, by grind, fun k => gp_ext (hxx (by omega)) (by omega), fun k => gp_ext (hxc (by omega)) (by omega)⟩
    · refine ⟨v.y - d.y, c.y - v.y, by omega, by omega, by omega, by grind, by grind, fun k => gp_ext (hxx (by omega)) (by omega), fun k => gp_ext (hxc (by omega)) (by omega)⟩
theorem bary3 {α β : Int} {c d v : GP} (h1 : (α + β) * v.x = α * c.x + β * d.x) (h2 : (α + β) * v.y = α * c.y + β * d.y) (a b : GP) : (α + β) * sd a b v = α * sd a b c + β * sd a b d := by
  unfold sd; grind
theorem bary2 {α β : Int} {a b v : GP} (h1 : (α + β) * v.x = α * a.x + β * b.x) (h2 : (α + β) * v.y = α * a.y + β * b.y) (c : GP) : (α + β) * sd a v c = β * sd a b c := by
  unfold sd; grind
theorem on_self {a v : GP} (h : onS a a v) : v = a := by
  obtain ⟨_, h1, h2⟩ := h
  unfold btw at h1 h2
  exact gp_ext (by omega) (by omega)
theorem collin {a b c d v : GP} (hne : a ≠ b) (h1 : sd a b c = 0) (h2 : sd a b d = 0) (hv : onS a b v) (hw : onS c d v) : meet a b c d := by
  obtain ⟨_, vx, vy⟩ := hv
  obtain ⟨_, wx, wy⟩ := hw
  unfold btw at vx vy wx wy
  by_cases ey : a.y = b.y
  · have ex : b.x - a.x ≠ 0 := fun k => hne (gp_ext (by omega) ey)
    have cy : c.y = a.y := by
      have e : (b.x - a.x) * (c.y - a.y) = 0 := by unfold sd at h1; rw [ey] at h1 ⊢; grind
      rcases Int.mul_eq_zero.1 e with e | e <;> omega
    have dy : d.y = a.y := by
      have e : (b.x - a.x) * (d.y - a.y) = 0 := by unfold sd at h2; rw [ey] at h2 ⊢; grind
      rcases Int.mul_eq_zero.1 e with e | e <;> omega
    have : btw a.x b.x c.x ∨ btw a.x b.x d.x ∨ btw c.x d.x a.x := by unfold btw; omega
    rcases this with k | k | k
    · exact .inl (on_flat (by omega) (by omega) k)
    · exact .inr (.inl (on_flat (by omega) (by omega) k))
    · exact .inr (.inr (.inl (on_flat (by omega) (by omega) k)))
  · have : btw a.y b.y c.y ∨ btw a.y b.y d.y ∨ (btw c.y d.y a.y ∧ c.y ≠ d.y) := by unfold btw; omega
    rcases this with k | k | ⟨k, k'⟩
    · exact .inl (on_of_h h1 k ey)
    · exact .inr (.inl (on_of_h h2 k ey))
    · refine .inr (.inr (.inl (on_of_h ?_ k k')))
      have i0 := I0 a b c d
      have i2 := I2 c d a b
      have e : (b.y - a.y) * sd c d a = 0 := by grind
      rcases Int.mul_eq_zero.1 e with e | e <;> omega
theorem opp_of {α β x y : Int} (h1 : 0 < α) (h2 : 0 < β) (h : α * x + β * y = 0) : (x = 0 ∧ y = 0) ∨ opp x y := by
  unfold opp
  have p1 := pos_mul (v := x) h1
  have p2 := pos_mul (v := y) h2
  rcases Int.lt_trichotomy x 0 with k | k | k
  · right; left; exact ⟨k, p2.1.1 (by have := p1.2.2 k; omega)⟩
  · left
    subst k
    rw [Int.mul_zero, Int.zero_add] at h
    exact ⟨rfl, mul_zero_r h2 h⟩
  · right; right; exact ⟨k, p2.2.1 (by have := p1.1.2 k; omega)⟩
theorem common {a b c d v : GP} (hv : onS a b v) (hw : onS c d v) : meet a b c d := by
  by_cases h1 : a = b
  · subst h1
    have := on_self hv; subst this
    exact .inr (.inr (.inl hw))
  by_cases h2 : c = d
  · subst h2
    have := on_self hw; subst this
    exact .inl hv
  obtain ⟨α, β, a1, a2, a3, a4, a5, a6, a7⟩ := bary hw h2
  obtain ⟨γ, δ, b1, b2, b3, b4, b5, b6, b7⟩ := bary hv h1
  by_cases k1 : α = 0
  · rw [a6 k1] at hv; exact .inr (.inl hv)
  by_cases k2 : β = 0
  · rw [a7 k2] at hv; exact .inl hv
  by_cases k3 : γ = 0
  · rw [b6 k3] at hw; exact .inr (.inr (.inr (.inl hw)))
  by_cases k4 : δ = 0
  · rw [b7 k4] at hw; exact .inr (.inr (.inl hw))
  have f := bary3 a4 a5 a b
  have g := bary3 b4 b5 c d
  rw [hv.1, Int.mul_zero] at f
  rw [hw.1, Int.mul_zero] at g
  rcases opp_of (by omega) (by omega) f.symm with ⟨z1, z2⟩ | o1
  · exact collin h1 z1 z2 hv hw
  · rcases opp_of (by omega) (by omega) g.symm with ⟨z1, z2⟩ | o2
    · exact meet_comm.1 (collin h2 z1 z2 hw hv)
    · exact .inr (.inr (.inr (.inr ⟨o1, o2⟩)))
theorem btw_trans {a b v c : Int} (h : btw a b v) (k : btw a v c) : btw a b c := by unfold btw at *; omega
theorem onS_trans {a b v c : GP} (hv : onS a b v) (hne : v ≠ a) (h : onS a v c) : onS a b c := by
  have hab : a ≠ b := fun k => by subst k; exact hne (on_self hv)
  obtain ⟨α, β, a1, a2, a3, a4, a5, a6, a7⟩ := bary hv hab
  refine ⟨?_, btw_trans hv.2.1 h.2.1, btw_trans hv.2.2 h.2.2⟩
  have e := bary2 a4 a5 c
  rw [h.1, Int.mul_zero] at e
  exact mul_zero_r (u := β) (by have : β ≠ 0 := fun k => hne (a7 k); omega) e.symm
theorem sub_meet {a b c d v : GP} (hv : onS a b v) (hne : v ≠ a) (h : meet a v c d) : meet a b c d := by
  have hab : a ≠ b := fun k => by subst k; exact hne (on_self hv)
  rcases h with h | h | h | h | ⟨h, h'⟩
  · exact .inl (onS_trans hv hne h)
  · exact .inr (.inl (onS_trans hv hne h))
  · exact .inr (.inr (.inl h))
  · exact common hv h
  · obtain ⟨α, β, a1, a2, a3, a4, a5, a6, a7⟩ := bary hv hab
    have hb : 0 < β := by have : β ≠ 0 := fun k => hne (a7 k); omega
    have e1 := bary2 a4 a5 c
    have e2 := bary2 a4 a5 d
    have e3 := bary3 a4 a5 c d
    have p1 := pos_mul (v := sd a v c) a3
    have p2 := pos_mul (v := sd a v d) a3
    have p3 := pos_mul (v := sd a b c) hb
    have p4 := pos_mul (v := sd a b d) hb
    have p5 := pos_mul (v := sd c d v) a3
    have p6 := pos_mul (v := sd c d b) hb
    refine .inr (.inr (.inr (.inr ⟨?_, ?_⟩)))
    · unfold opp at h ⊢; omega
    · unfold opp at h' ⊢
      rcases h' with ⟨k1, k2⟩ | ⟨k1, k2⟩
      · have q := Int.mul_nonneg a1 (show 0 ≤ -sd c d a by omega)
        rw [Int.mul_neg] at q
        left; exact ⟨k1, by omega⟩
      · have q := Int.mul_nonneg a1 (show 0 ≤ sd c d a by omega)
        right; exact ⟨k1, by omega⟩
/-- A spot of an edge, other than the corner, is not on the next edge. -/
theorem next_off {a b c v : GP} (h1 : ¬ onS a b c) (h2 : ¬ onS b c a) (hab : a ≠ b) (hv : onS a b v) (hne : v ≠ b) : ¬ onS b c v := by
  intro hw
  obtain ⟨α, β, a1, a2, a3, a4, a5, a6, a7⟩ := bary hv hab
  have ha : 0 < α := by have : α ≠ 0 := fun k => hne (a6 k); omega
  have e := bary3 a4 a5 b c
  rw [hw.1, sd_l, Int.mul_zero, Int.mul_zero, Int.add_zero] at e
  have z : sd b c a = 0 := mul_zero_r ha e.symm
  have z' : sd a b c = 0 := by rw [← sd_rot]; exact z
  obtain ⟨v0, vx, vy⟩ := hv
  obtain ⟨_, wx, wy⟩ := hw
  unfold btw at vx vy wx wy
  by_cases ey : a.y = b.y
  · have ex : b.x - a.x ≠ 0 := fun k => hab (gp_ext (by omega) ey)
    have cy : c.y = a.y := by
      have e : (b.x - a.x) * (c.y - a.y) = 0 := by unfold sd at z'; rw [ey] at z' ⊢; grind
      rcases Int.mul_eq_zero.1 e with e | e <;> omega
    have hx : v.x ≠ b.x := fun k => hne (gp_ext k (by omega))
    have m1 : ¬ btw a.x b.x c.x := fun k => h1 (on_flat (by omega) (by omega) k)
    have m2 : ¬ btw b.x c.x a.x := fun k => h2 (on_flat (by omega) (by omega) k)
    unfold btw at m1 m2
    omega
  · have hy : v.y ≠ b.y := by
      intro k
      refine hne (gp_ext ?_ k)
      have e : (b.y - a.y) * (b.x - v.x) = 0 := by rw [← sd_flat2 k.symm]; exact v0
      rcases Int.mul_eq_zero.1 e with e | e <;> omega
    have m1 : ¬ btw a.y b.y c.y := fun k => h1 (on_of_h z' k ey)
    have m2 : ¬ (btw b.y c.y a.y ∧ b.y ≠ c.y) := fun k => h2 (on_of_h z k.1 k.2)
    unfold btw at m1 m2
    omega
theorem next_clear {a b c v : GP} (h1 : ¬ onS a b c) (h2 : ¬ onS b c a) (hab : a ≠ b) (hv : onS a b v) (hb : v ≠ b) (ha : v ≠ a) : ¬ meet b c v a := by
  obtain ⟨α, β, a1, a2, a3, a4, a5, a6, a7⟩ := bary hv hab
  have z : sd v a b = 0 := by
    have e := bary2 a4 a5 b
    rw [sd_r, Int.mul_zero] at e
    have := mul_zero_r a3 e
    rw [sd_swap]; omega
  rintro (h | h | h | h | ⟨h, h'⟩)
  · exact next_off h1 h2 hab hv hb h
  · exact h2 h
  · have h := onS_swap.1 h
    obtain ⟨_, k1, k2⟩ := h
    obtain ⟨_, k3, k4⟩ := hv
    unfold btw at *
    exact hb (gp_ext (by omega) (by omega))
  · exact h1 (onS_trans hv ha (onS_swap.1 h))
  · unfold opp at h'; omega
/-! a spot and what it sees to its right -/
theorem ph_flat {q r p : GP} (h : q.y = r.y) : ph q r p = 0 := by
  unfold ph
  rw [if_neg (by omega), if_neg (by omega)]
theorem sd_same {a b r s : GP} (h0 : sd a b r = 0) (hy : r.y = s.y) : sd a b s = (b.y - a.y) * (r.x - s.x) := by
  unfold sd at *; grind
theorem clear {a b s v : GP} (hy : v.y = s.y) (hx : s.x < v.x) (hs : ∀ x, s.x ≤ x → x < v.x → ¬ onS a b ⟨x, s.y⟩) (hi : (a.y < s.y ∧ s.y < b.y) ∨ (b.y < s.y ∧ s.y < a.y) → ∃ x, onS a b ⟨x, s.y⟩) (hv : ¬ onS a b v) : ¬ meet a b s v := by
  have s0 : ¬ onS a b s := hs s.x (by omega) hx
  have en : ∀ e : GP, onS s v e → onS a b e → False := by
    intro e h1 h2
    obtain ⟨_, k1, k2⟩ := h1
    unfold btw at k1 k2
    have ey : e.y = s.y := by omega
    by_cases k : e.x < v.x
    · have := hs e.x (by omega) k
      exact this (by rw [← ey]; exact h2)
    · have : e = v := gp_ext (by omega) (by omega)
      exact hv (this ▸ h2)
  rintro (h | h | h | h | ⟨h, h'⟩)
  · exact s0 h
  · exact hv h
  · exact en a h ⟨sd_l a b, by unfold btw; omega, by unfold btw; omega⟩
  · exact en b h ⟨sd_r a b, by unfold btw; omega, by unfold btw; omega⟩
  · have e1 : sd s v a = (v.x - s.x) * (a.y - s.y) := by unfold sd; rw [hy]; simp
    have e2 : sd s v b = (v.x - s.x) * (b.y - s.y) := by unfold sd; rw [hy]; simp
    rw [e1, e2] at h'
    have p1 := pos_mul (u := v.x - s.x) (v := a.y - s.y) (by omega)
    have p2 := pos_mul (u := v.x - s.x) (v := b.y - s.y) (by omega)
    have hh : (a.y < s.y ∧ s.y < b.y) ∨ (b.y < s.y ∧ s.y < a.y) := by unfold opp at h'; omega
    obtain ⟨x, hr⟩ := hi hh
    have f1 := sd_same (r := ⟨x, s.y⟩) (s := s) hr.1 rfl
    have f2 := sd_same (r := ⟨x, s.y⟩) (s := v) hr.1 hy.symm
    simp only at f1 f2
    rw [f1, f2] at h
    refine hs x ?_ ?_ hr
    · rcases hh with hh | hh
      · have q1 := pos_mul (u := b.y - a.y) (v := x - s.x) (by omega)
        have q2 := pos_mul (u := b.y - a.y) (v := x - v.x) (by omega)
        unfold opp at h; omega
      · have q1 := neg_mul_s (u := b.y - a.y) (v := x - s.x) (by omega)
        have q2 := neg_mul_s (u := b.y - a.y) (v := x - v.x) (by omega)
        unfold opp at h; omega
    · rcases hh with hh | hh
      · have q1 := pos_mul (u := b.y - a.y) (v := x - s.x) (by omega)
        have q2 := pos_mul (u := b.y - a.y) (v := x - v.x) (by omega)
        unfold opp at h; omega
      · have q1 := neg_mul_s (u := b.y - a.y) (v := x - s.x) (by omega)
        have q2 := neg_mul_s (u := b.y - a.y) (v := x - v.x) (by omega)
        unfold opp at h; omega
theorem cr_clear {a b s v : GP} (hy : v.y = s.y) (h : ¬ meet a b s v) : cr a b s = cr a b v := by
  have := seg h
  rw [ph_flat hy.symm, ph_flat hy.symm] at this
  omega
/-- The turns of a closed way round a spot. -/
def turns (p : Nat → GP) (n : Nat) (s : GP) : Int := Sm (fun j => cr (p j) (p (j + 1)) s) n
theorem Sm_rot (f : Nat → Int) (n : Nat) (h : ∀ k, f (k + n) = f k) : ∀ k, Sm (fun j => f (k + j)) n = Sm f n
  | 0 => Sm_congr (fun i _ => by rw [Nat.zero_add])
  | k + 1 => by
    rw [← Sm_rot f n h k]
    have e1 := Sm_head (fun j => f (k + j)) n
    simp only [Sm, Nat.add_zero] at e1
    have e2 : Sm (fun i => f (k + (i + 1))) n = Sm (fun j => f (k + 1 + j)) n := Sm_congr (fun i _ => by rw [show k + (i + 1) = k + 1 + i by omega])
    rw [e2, h k] at e1
    omega
theorem turns_rot {p : Nat → GP} {m : Nat} (h : Simple p m) (s : GP) (k : Nat) : turns p (m + 3) s = Sm (fun j => cr (p (k + j)) (p (k + j + 1)) s) (m + 3) := by
  unfold turns
  rw [← Sm_rot (fun j => cr (p j) (p (j + 1)) s) (m + 3) (fun k => by
    show cr (p (k + (m + 3))) (p (k + (m + 3) + 1)) s = _
    rw [show k + (m + 3) + 1 = k + 1 + (m + 3) by omega, h.per, h.per]) k]
/-- What s sees at its right: nothing of the way up to v. -/
structure Sees (p : Nat → GP) (s v : GP) : Prop where
  y : v.y = s.y
  x : s.x < v.x
  free : ∀ j x, s.x ≤ x → x < v.x → ¬ onS (p j) (p (j + 1)) ⟨x, s.y⟩
  whole : ∀ j, ((p j).y < s.y ∧ s.y < (p (j + 1)).y) ∨ ((p (j + 1)).y < s.y ∧ s.y < (p j).y) → ∃ x, onS (p j) (p (j + 1)) ⟨x, s.y⟩
theorem Sees.cr {p : Nat → GP} {s v : GP} (h : Sees p s v) {j : Nat} (hv : ¬ onS (p j) (p (j + 1)) v) : cr (p j) (p (j + 1)) s = cr (p j) (p (j + 1)) v :=
  cr_clear h.y (clear h.y h.x (h.free j) (h.whole j) hv)
theorem local_v {z v c s : GP} (h1 : ¬ onS z v c) (h2 : ¬ onS v c z) (hzv : z ≠ v) (hvc : v ≠ c) (hy : v.y = s.y) (hx : s.x < v.x) (hz : z.y = v.y → v.x < z.x) : cr z v s + cr v c s = mi z v c + kp z v ∨ cr z v s + cr v c s = mi z v c + kp z v - 1 := by
  have e1 : sd z v s = (v.y - z.y) * (v.x - s.x) := sd_flat2 hy
  have e2 : sd v c s = -((c.y - v.y) * (s.x - v.x)) := sd_flat hy
  have e2' : sd v c s = (c.y - v.y) * (v.x - s.x) := by rw [e2]; grind
  have c1 : cr z v s = if v.y < z.y then -1 else 0 := by
    unfold cr
    by_cases k : v.y < z.y
    · have := neg_mul_s (u := v.y - z.y) (v := v.x - s.x) (by omega)
      rw [e1, if_neg (by omega), if_pos (by omega), if_pos k]
    · rw [if_neg (by omega), if_neg (by omega), if_neg k]
  have c2 : cr v c s = if v.y < c.y then 1 else 0 := by
    unfold cr
    by_cases k : v.y < c.y
    · have := pos_mul (u := c.y - v.y) (v := v.x - s.x) (by omega)
      rw [e2', if_pos (by omega), if_pos k]
    · rw [if_neg (by omega), if_neg (by omega), if_neg k]
  rw [c1, c2]
  unfold kp
  by_cases k : z.y < v.y
  · rw [mi_up k]
    repeat' split
    all_goals omega
  · rw [mi_dn (by omega)]
    by_cases k' : z.y = v.y
    · have hz' := hz k'
      have f : v.y < c.y → sd z v c < 0 := by
        intro kc
        have e : sd z v c = (c.y - z.y) * (v.x - z.x) := by unfold sd; rw [k']; grind
        have := pos_mul (u := c.y - z.y) (v := v.x - z.x) (by omega)
        omega
      repeat' split
      all_goals omega
    · repeat' split
      all_goals omega
theorem at_corner {p : Nat → GP} {m : Nat} (h : Simple p m) {s : GP} (k : Nat) (hs : Sees p s (p (k + 1))) : turns p (m + 3) s = LL p m 0 ∨ turns p (m + 3) s = LL p m 0 - 1 := by
  have e1 : turns p (m + 3) s = cr (p k) (p (k + 1)) s + cr (p (k + 1)) (p (k + 2)) s + VV p m (k + 1) := by
    rw [turns_rot h s k, Sm_head, Sm_head]
    have : Sm (fun i => cr (p (k + (i + 1 + 1))) (p (k + (i + 1 + 1) + 1)) s) (m + 1) = VV p m (k + 1) := by
      unfold VV
      refine Sm_congr (fun j hj => ?_)
      rw [show k + (j + 1 + 1) = k + 2 + j by omega, show k + 1 + 1 + j = k + 2 + j by omega, show k + 1 + 2 + j = k + 2 + j + 1 by omega]
      refine hs.cr ?_
      by_cases hjm : j < m
      · have := h.non k j hjm
        rw [show k + 3 + j = k + 2 + j + 1 by omega] at this
        exact fun hh => this (.inr (.inl hh))
      · have hj' : j = m := by omega
        subst hj'
        have := h.adj1 (k + 2 + j)
        rw [show k + 2 + j + 2 = k + 1 + (j + 3) by omega, h.per] at this
        exact this
    rw [this]
    simp only [Nat.add_zero, Nat.zero_add]
    rw [show k + 1 + 1 = k + 2 by omega]
    omega
  have hz : (p k).y = (p (k + 1)).y → (p (k + 1)).x < (p k).x := by
    intro hy
    have hne : (p k).x ≠ (p (k + 1)).x := fun hx => h.ne k (gp_ext hx hy)
    by_cases hx : (p k).x < (p (k + 1)).x
    · exfalso
      have hsy := hs.y
      have hsx := hs.x
      by_cases k1 : s.x ≤ (p k).x
      · exact hs.free k (p k).x k1 hx (on_flat (by simp only; omega) (by simp only; omega) (by unfold btw; simp only; omega))
      · exact hs.free k s.x (by omega) hsx (on_flat (by simp only; omega) (by simp only; omega) (by unfold btw; simp only; omega))
    · omega
  have l := local_v (h.adj1 k) (h.adj2 k) (h.ne k) (h.ne (k + 1)) hs.y hs.x hz
  have hL : VV p m (k + 1) + mi (p k) (p (k + 1)) (p (k + 2)) + kp (p k) (p (k + 1)) = LL p m 0 := LL_all h k
  rw [show k + 1 + 1 = k + 2 by omega] at *
  omega
theorem VV_per {p : Nat → GP} {m : Nat} (h : Simple p m) (k : Nat) : VV p m (k + (m + 3)) = VV p m k := by
  unfold VV
  refine Sm_congr (fun j _ => ?_)
  rw [show k + (m + 3) + 1 + j = k + 1 + j + (m + 3) by omega, show k + (m + 3) + 2 + j = k + 2 + j + (m + 3) by omega, h.per, h.per, h.per]
theorem at_edge {p : Nat → GP} {m : Nat} (h : Simple p m) {s v : GP} (k : Nat) (hs : Sees p s v) (hv : onS (p k) (p (k + 1)) v) (ha : v ≠ p k) (hb : v ≠ p (k + 1)) : turns p (m + 3) s = LL p m 0 ∨ turns p (m + 3) s = LL p m 0 - 1 := by
  have hsy := hs.y
  have hsx := hs.x
  have hab := h.ne k
  have ny : (p k).y ≠ (p (k + 1)).y := by
    intro hy
    obtain ⟨_, k1, k2⟩ := hv
    unfold btw at k1 k2
    by_cases k3 : s.x ≤ (p k).x ∧ (p k).x < v.x
    · exact hs.free k (p k).x k3.1 k3.2 (on_flat (by simp only; omega) (by simp only; omega) (by unfold btw; simp only; omega))
    · by_cases k4 : s.x ≤ (p (k + 1)).x ∧ (p (k + 1)).x < v.x
      · exact hs.free k (p (k + 1)).x k4.1 k4.2 (on_flat (by simp only; omega) (by simp only; omega) (by unfold btw; simp only; omega))
      · have n1 : v.x ≠ (p k).x := fun e => ha (gp_ext e (by omega))
        have n2 : v.x ≠ (p (k + 1)).x := fun e => hb (gp_ext e (by omega))
        exact hs.free k s.x (by omega) hsx (on_flat (by simp only; omega) (by simp only; omega) (by unfold btw; simp only; omega))
  have zk : p (k + (m + 2) + 1) = p k := by rw [show k + (m + 2) + 1 = k + (m + 3) by omega, h.per]
  have zk2 : p (k + (m + 2) + 2) = p (k + 1) := by rw [show k + (m + 2) + 2 = k + 1 + (m + 3) by omega, h.per]
  -- no other edge has v
  have off : ∀ j, j < m + 2 → ¬ onS (p (k + 1 + j)) (p (k + 1 + j + 1)) v := by
    intro j hj hw
    by_cases j0 : j = 0
    · subst j0
      exact next_off (h.adj1 k) (h.adj2 k) hab hv hb hw
    · by_cases j1 : j = m + 1
      · subst j1
        have a1 := h.adj1 (k + (m + 2))
        have a2 := h.adj2 (k + (m + 2))
        rw [zk, zk2] at a1 a2
        rw [show k + 1 + (m + 1) = k + (m + 2) by omega, zk] at hw
        exact next_off (a := p (k + 1)) (b := p k) (c := p (k + (m + 2))) (fun x => a2 (onS_swap.1 x)) (fun x => a1 (onS_swap.1 x)) (fun e => hab e.symm) (onS_swap.1 hv) ha (onS_swap.1 hw)
      · have := h.non k (j - 1) (by omega)
        rw [show k + 2 + (j - 1) = k + 1 + j by omega, show k + 3 + (j - 1) = k + 1 + j + 1 by omega] at this
        exact this (common hw hv)
  have e1 : turns p (m + 3) s = cr (p k) (p (k + 1)) s + (Sm (fun j => cr (p (k + 1 + j)) (p (k + 2 + j)) v) (m + 1) + cr (p (k + (m + 2))) (p k) v) := by
    rw [turns_rot h s k, Sm_head]
    simp only [Nat.add_zero]
    congr 1
    have : Sm (fun i => cr (p (k + (i + 1))) (p (k + (i + 1) + 1)) s) (m + 2) = Sm (fun j => cr (p (k + 1 + j)) (p (k + 2 + j)) v) (m + 2) := by
      refine Sm_congr (fun j hj => ?_)
      rw [show k + (j + 1) = k + 1 + j by omega, show k + 2 + j = k + 1 + j + 1 by omega]
      exact hs.cr (off j hj)
    rw [this]
    show Sm _ (m + 1) + cr (p (k + 1 + (m + 1))) (p (k + 2 + (m + 1))) v = _
    rw [show k + 1 + (m + 1) = k + (m + 2) by omega, show k + 2 + (m + 1) = k + (m + 3) by omega, h.per]
  have e2 : Sm (fun j => cr (p (k + 1 + j)) (p (k + 2 + j)) v) (m + 1) - VV p m k = ph v (p k) (p (k + (m + 2))) - ph v (p k) (p (k + 1)) := by
    unfold VV
    rw [← Sm_sub]
    have t := Sm_tel (fun i => ph v (p k) (p (k + 1 + i))) (m + 1)
    simp only [Nat.add_zero] at t
    rw [show k + 1 + (m + 1) = k + (m + 2) by omega] at t
    rw [← t]
    refine Sm_congr (fun j hj => ?_)
    rw [show k + 1 + (j + 1) = k + 2 + j by omega]
    refine seg ?_
    by_cases j0 : j = 0
    · subst j0
      exact next_clear (h.adj1 k) (h.adj2 k) hab hv hb ha
    · have := h.non k (j - 1) (by omega)
      rw [show k + 2 + (j - 1) = k + 1 + j by omega, show k + 3 + (j - 1) = k + 2 + j by omega] at this
      intro hm
      exact this (meet_comm.1 (sub_meet hv ha (meet_swap1.1 (meet_comm.1 hm))))
  obtain ⟨α, β, a1, a2, a3, a4, a5, a6, a7⟩ := bary hv hab
  have hβ : 0 < β := by have : β ≠ 0 := fun k => ha (a7 k); omega
  have hα : 0 < α := by have : α ≠ 0 := fun k => hb (a6 k); omega
  have z1 : ph v (p k) (p (k + 1)) = 0 := by
    have e := bary2 a4 a5 (p (k + 1))
    rw [sd_r, Int.mul_zero] at e
    have := mul_zero_r a3 e
    unfold ph
    rw [sd_swap (p k) v]
    repeat' split
    all_goals omega
  have hvy : ((p k).y < v.y ∧ v.y < (p (k + 1)).y) ∨ ((p (k + 1)).y < v.y ∧ v.y < (p k).y) := by
    have q := hv.2.2
    unfold btw at q
    have n1 : v.y ≠ (p k).y := by
      intro e
      rw [e] at a5
      have : β * (p k).y = β * (p (k + 1)).y := by grind
      have := Int.eq_of_mul_eq_mul_left (by omega) this
      exact ny this
    have n2 : v.y ≠ (p (k + 1)).y := by
      intro e
      rw [e] at a5
      have : α * (p (k + 1)).y = α * (p k).y := by grind
      have := Int.eq_of_mul_eq_mul_left (by omega) this
      exact ny this.symm
    omega
  -- the numbers at the corner before
  have hmo : cr (p (k + (m + 2))) (p k) v + ph v (p k) (p (k + (m + 2))) = mo (p (k + (m + 2))) (p k) (p (k + 1)) := by
    have e3 : cr (p (k + (m + 2))) (p k) v + ph v (p k) (p (k + (m + 2))) = mo (p (k + (m + 2))) (p k) v := by
      unfold mo; rw [ph_swap (p k) v]; omega
    rw [e3]
    have e4 : (α + β) * sd (p (k + (m + 2))) (p k) v = β * sd (p (k + (m + 2))) (p k) (p (k + 1)) := by
      have := bary3 a4 a5 (p (k + (m + 2))) (p k)
      rw [sd_r, Int.mul_zero, Int.zero_add] at this
      exact this
    have p1 := pos_mul (v := sd (p (k + (m + 2))) (p k) v) a3
    have p2 := pos_mul (v := sd (p (k + (m + 2))) (p k) (p (k + 1))) hβ
    rcases hvy with hh | hh
    · rw [mo_up (by omega), mo_up (by omega)]
      repeat' split
      all_goals omega
    · rw [mo_dn (by omega), mo_dn (by omega)]
      repeat' split
      all_goals omega
  have hL := LL_all h (k + (m + 2))
  rw [LL_out h, zk, zk2, show k + (m + 2) + 1 = k + (m + 3) by omega, VV_per h] at hL
  have hc : cr (p k) (p (k + 1)) s = kp (p k) (p (k + 1)) ∨ cr (p k) (p (k + 1)) s = kp (p k) (p (k + 1)) - 1 := by
    have f := sd_same (a := p k) (b := p (k + 1)) (r := v) (s := s) hv.1 hsy
    unfold cr kp
    rw [f]
    rcases hhh : hvy with hh | hh
    · have := pos_mul (u := (p (k + 1)).y - (p k).y) (v := v.x - s.x) (by omega)
      rw [if_pos (by omega), if_pos (by omega)]; omega
    · have := neg_mul_s (u := (p (k + 1)).y - (p k).y) (v := v.x - s.x) (by omega)
      rw [if_neg (by omega), if_pos (by omega), if_neg (by omega)]; omega
  omega
/-! the first spot to the right -/
theorem least {P : Int → Prop} {l : Int} : ∀ (n : Nat) (x : Int), l < x → x ≤ l + n → P x → ∃ y, l < y ∧ P y ∧ ∀ z, l < z → z < y → ¬ P z
  | 0, x, h1, h2, _ => by omega
  | n + 1, x, h1, h2, hx => by
    by_cases h : ∃ z, l < z ∧ z < x ∧ P z
    · obtain ⟨z, z1, z2, z3⟩ := h
      exact least n z z1 (by omega) z3
    · exact ⟨x, h1, hx, fun z z1 z2 z3 => h ⟨z, z1, z2, z3⟩⟩
def Whole (p : Nat → GP) (h : Int) : Prop := ∀ j, ((p j).y < h ∧ h < (p (j + 1)).y) ∨ ((p (j + 1)).y < h ∧ h < (p j).y) → ∃ x, onS (p j) (p (j + 1)) ⟨x, h⟩
theorem with_hit {p : Nat → GP} {m : Nat} (h : Simple p m) {s : GP} (hw : Whole p s.y) (hs : ∀ j, ¬ onS (p j) (p (j + 1)) s) {x0 : Int} (h0 : s.x < x0) {j0 : Nat} (hj : onS (p j0) (p (j0 + 1)) ⟨x0, s.y⟩) : turns p (m + 3) s = LL p m 0 ∨ turns p (m + 3) s = LL p m 0 - 1 := by
  obtain ⟨x, x1, ⟨k, hk⟩, x3⟩ := least (P := fun x => ∃ j, onS (p j) (p (j + 1)) ⟨x, s.y⟩) (l := s.x) (x0 - s.x).toNat x0 h0 (by omega) ⟨j0, hj⟩
  have sees : Sees p s ⟨x, s.y⟩ := by
    refine ⟨rfl, x1, fun j y y1 y2 hy => ?_, hw⟩
    by_cases e : y = s.x
    · subst e; exact hs j hy
    · exact x3 y (by omega) y2 ⟨j, hy⟩
  by_cases e1 : (⟨x, s.y⟩ : GP) = p (k + 1)
  · rw [e1] at sees
    exact at_corner h k sees
  · by_cases e2 : (⟨x, s.y⟩ : GP) = p k
    · have : p k = p (k + (m + 2) + 1) := by rw [show k + (m + 2) + 1 = k + (m + 3) by omega, h.per]
      rw [e2, this] at sees
      exact at_corner h _ sees
    · exact at_edge h k sees hk e2 e1
theorem Sm_zero {f : Nat → Int} {n : Nat} (h : ∀ i, i < n → f i = 0) : Sm f n = 0 := by
  have : ∀ n, Sm (fun _ => (0 : Int)) n = 0 := fun n => by
    induction n with
    | zero => rfl
    | succ n ih => simp only [Sm]; omega
  rw [Sm_congr h, this]
theorem no_hit {p : Nat → GP} {n : Nat} {s : GP} (hw : Whole p s.y) (hn : ∀ x j, s.x < x → ¬ onS (p j) (p (j + 1)) ⟨x, s.y⟩) : turns p n s = 0 := by
  unfold turns
  refine Sm_zero (fun j _ => ?_)
  have lo : ∀ {a b : GP}, a.y = s.y → 0 < sd a b s → s.y < b.y → s.x < a.x := by
    intro a b h1 h2 h3
    rw [sd_flat h1] at h2
    have := mul_neg_r (u := b.y - a.y) (P := s.x - a.x) (by omega) (by omega)
    omega
  unfold cr
  by_cases c1 : (p j).y ≤ s.y ∧ s.y < (p (j + 1)).y ∧ 0 < sd (p j) (p (j + 1)) s
  · exfalso
    by_cases e : (p j).y = s.y
    · have := lo e c1.2.2 c1.2.1
      refine hn (p j).x j this ⟨?_, ?_, ?_⟩
      · rw [← e]; exact sd_l _ _
      · unfold btw; simp only; omega
      · unfold btw; simp only; omega
    · obtain ⟨x, hx⟩ := hw j (.inl ⟨by omega, c1.2.1⟩)
      have f := sd_same (s := s) hx.1 rfl
      simp only at f
      have := mul_pos_r (u := (p (j + 1)).y - (p j).y) (P := x - s.x) (by omega) (by omega)
      exact hn x j (by omega) hx
  · rw [if_neg c1]
    by_cases c2 : (p (j + 1)).y ≤ s.y ∧ s.y < (p j).y ∧ sd (p j) (p (j + 1)) s < 0
    · exfalso
      by_cases e : (p (j + 1)).y = s.y
      · have := lo (a := p (j + 1)) (b := p j) e (by rw [sd_swap]; omega) c2.2.1
        refine hn (p (j + 1)).x j this ⟨?_, ?_, ?_⟩
        · rw [← e]; exact sd_r _ _
        · unfold btw; simp only; omega
        · unfold btw; simp only; omega
      · obtain ⟨x, hx⟩ := hw j (.inr ⟨by omega, c2.2.1⟩)
        have f := sd_same (s := s) hx.1 rfl
        simp only at f
        have q := neg_mul_s (u := (p (j + 1)).y - (p j).y) (v := x - s.x) (by omega)
        exact hn x j (by omega) hx
    · rw [if_neg c2]
theorem per_mod {p : Nat → GP} {n : Nat} (h : ∀ k, p (k + n) = p k) (hn : 0 < n) (k : Nat) : p k = p (k % n) := by
  have key : ∀ q r : Nat, p (r + n * q) = p r := by
    intro q
    induction q with
    | zero => intro r; rfl
    | succ q ih => intro r; rw [Nat.mul_succ, ← Nat.add_assoc, h, ih]
  have := key (k / n) (k % n)
  rw [Nat.mod_add_div] at this
  exact this
theorem left_of (p : Nat → GP) : ∀ n : Nat, ∃ X : Int, ∀ j, j < n → X < (p j).x
  | 0 => ⟨0, fun j hj => by omega⟩
  | n + 1 => by
    obtain ⟨X, hX⟩ := left_of p n
    refine ⟨if X < (p n).x then X else (p n).x - 1, fun j hj => ?_⟩
    by_cases e : j = n
    · subst e; split <;> omega
    · have := hX j (by omega); split <;> omega
theorem far_left {p : Nat → GP} {m : Nat} (h : Simple p m) {s : GP} (hx : ∀ j, s.x < (p j).x) : turns p (m + 3) s = 0 := by
  have t := Sm_tel (fun i => if s.y < (p i).y then (1 : Int) else 0) (m + 3)
  have key : turns p (m + 3) s = Sm (fun j => (if s.y < (p (j + 1)).y then (1 : Int) else 0) - (if s.y < (p j).y then (1 : Int) else 0)) (m + 3) := by
    unfold turns
    refine Sm_congr (fun j _ => ?_)
    have x1 := hx j
    have x2 := hx (j + 1)
    generalize p j = a at *
    generalize p (j + 1) = b at *
    have e : sd a b s = (b.x - s.x) * (s.y - a.y) + (a.x - s.x) * (b.y - s.y) := by unfold sd; grind
    unfold cr
    have p1 : a.y ≤ s.y → s.y < b.y → 0 < sd a b s := by
      intro k1 k2
      have q1 := Int.mul_nonneg (show 0 ≤ b.x - s.x by omega) (show 0 ≤ s.y - a.y by omega)
      have q2 := Int.mul_pos (show 0 < a.x - s.x by omega) (show 0 < b.y - s.y by omega)
      omega
    have p2 : b.y ≤ s.y → s.y < a.y → sd a b s < 0 := by
      intro k1 k2
      have q1 := Int.mul_neg_of_pos_of_neg (show 0 < b.x - s.x by omega) (show s.y - a.y < 0 by omega)
      have q2 := Int.mul_nonneg (show 0 ≤ a.x - s.x by omega) (show 0 ≤ s.y - b.y by omega)
      have q3 : (a.x - s.x) * (b.y - s.y) = -((a.x - s.x) * (s.y - b.y)) := by grind
      omega
    by_cases k1 : s.y < a.y <;> by_cases k2 : s.y < b.y
    · rw [if_neg (by omega), if_neg (by omega), if_pos k1, if_pos k2]; omega
    · rw [if_neg (by omega), if_pos ⟨by omega, k1, p2 (by omega) k1⟩, if_pos k1, if_neg k2]; omega
    · rw [if_pos ⟨by omega, k2, p1 (by omega) k2⟩, if_neg k1, if_pos k2]; omega
    · rw [if_neg (by omega), if_neg (by omega), if_neg k1, if_neg k2]; omega
  rw [key, t]
  have := h.per 0
  rw [Nat.zero_add] at this
  rw [this]
  omega
/-! a finer grid -/
def scl (K : Int) (p : GP) : GP := ⟨K * p.x, K * p.y⟩
theorem sd_scl (K : Int) (a b s : GP) : sd (scl K a) (scl K b) (scl K s) = K * K * sd a b s := by unfold sd scl; grind
theorem le_scl {K a b : Int} (hK : 0 < K) : (K * a ≤ K * b ↔ a ≤ b) ∧ (K * a < K * b ↔ a < b) :=
  ⟨Int.mul_le_mul_left hK, Int.mul_lt_mul_left hK⟩
theorem btw_scl {K a b s : Int} (hK : 0 < K) : btw (K * a) (K * b) (K * s) ↔ btw a b s := by
  unfold btw
  rw [(le_scl hK).1, (le_scl hK).1, (le_scl hK).1, (le_scl hK).1]
theorem onS_scl {K : Int} (hK : 0 < K) {a b s : GP} : onS (scl K a) (scl K b) (scl K s) ↔ onS a b s := by
  have h2 : 0 < K * K := Int.mul_pos hK hK
  have := pos_mul (v := sd a b s) h2
  unfold onS
  rw [sd_scl]
  show _ ∧ btw (K * a.x) (K * b.x) (K * s.x) ∧ btw (K * a.y) (K * b.y) (K * s.y) ↔ _
  rw [btw_scl hK, btw_scl hK]
  constructor
  · rintro ⟨h, h'⟩; exact ⟨mul_zero_r h2 h, h'⟩
  · rintro ⟨h, h'⟩; exact ⟨by rw [h, Int.mul_zero], h'⟩
theorem opp_scl {K x y : Int} (hK : 0 < K) : opp (K * x) (K * y) ↔ opp x y := by
  have p1 := pos_mul (v := x) hK
  have p2 := pos_mul (v := y) hK
  unfold opp; omega
theorem meet_scl {K : Int} (hK : 0 < K) {a b c d : GP} : meet (scl K a) (scl K b) (scl K c) (scl K d) ↔ meet a b c d := by
  have h2 : 0 < K * K := Int.mul_pos hK hK
  unfold meet
  simp only [onS_scl hK, sd_scl, opp_scl h2]
theorem cr_scl {K : Int} (hK : 0 < K) (a b s : GP) : cr (scl K a) (scl K b) (scl K s) = cr a b s := by
  have h2 : 0 < K * K := Int.mul_pos hK hK
  have p1 := pos_mul (v := sd a b s) h2
  unfold cr
  rw [sd_scl]
  simp only [scl, (le_scl hK).1, (le_scl hK).2, p1.1, p1.2]
theorem Simple.scl {p : Nat → GP} {m : Nat} (h : Simple p m) {K : Int} (hK : 0 < K) : Simple (fun j => scl K (p j)) m := by
  refine ⟨fun k => by simp only [h.per], fun k e => h.ne k ?_, fun k e => h.adj1 k ((onS_scl hK).1 e), fun k e => h.adj2 k ((onS_scl hK).1 e), fun k j hj e => h.non k j hj ((meet_scl hK).1 e)⟩
  have e1 : K * (p k).x = K * (p (k + 1)).x := congrArg GP.x e
  have e2 : K * (p k).y = K * (p (k + 1)).y := congrArg GP.y e
  exact gp_ext (Int.eq_of_mul_eq_mul_left (by omega) e1) (Int.eq_of_mul_eq_mul_left (by omega) e2)
def Pr (f : Nat → Int) : Nat → Int
  | 0 => 1
  | n + 1 => Pr f n * f n
theorem Pr_pos {f : Nat → Int} (h : ∀ i, 0 < f i) : ∀ n, 0 < Pr f n
  | 0 => by simp [Pr]
  | n + 1 => Int.mul_pos (Pr_pos h n) (h n)
theorem Pr_dvd {f : Nat → Int} : ∀ {n i : Nat}, i < n → ∃ M, Pr f n = f i * M
  | 0, i, h => by omega
  | n + 1, i, h => by
    by_cases e : i = n
    · subst e; exact ⟨Pr f i, by simp only [Pr]; grind⟩
    · obtain ⟨M, hM⟩ := Pr_dvd (f := f) (n := n) (i := i) (by omega)
      exact ⟨M * f n, by simp only [Pr]; rw [hM]; grind⟩
theorem grid {p : Nat → GP} {n : Nat} (hp : ∀ k, p (k + n) = p k) (hn : 0 < n) : ∃ K, 0 < K ∧ ∀ t, Whole (fun j => scl K (p j)) (K * t) := by
  refine ⟨Pr (fun j => if (p j).y = (p (j + 1)).y then 1 else ((p (j + 1)).y - (p j).y).natAbs) n, Pr_pos (fun i => by split <;> omega) n, ?_⟩
  have hK : 0 < Pr (fun j => if (p j).y = (p (j + 1)).y then (1 : Int) else ((p (j + 1)).y - (p j).y).natAbs) n := Pr_pos (fun i => by split <;> omega) n
  have dv : ∀ j, (p j).y ≠ (p (j + 1)).y → ∃ M, Pr (fun j => if (p j).y = (p (j + 1)).y then (1 : Int) else ((p (j + 1)).y - (p j).y).natAbs) n = ((p (j + 1)).y - (p j).y) * M := by
    intro j hj
    obtain ⟨M, hM⟩ := Pr_dvd (f := fun j => if (p j).y = (p (j + 1)).y then (1 : Int) else ((p (j + 1)).y - (p j).y).natAbs) (n := n) (i := j % n) (Nat.mod_lt _ hn)
    have e1 := per_mod hp hn j
    have e2 : p (j + 1) = p (j % n + 1) := by
      rw [per_mod hp hn (j + 1), per_mod hp hn (j % n + 1)]
      rw [Nat.mod_add_mod]
    rw [← e1, ← e2, if_neg hj] at hM
    rcases Int.natAbs_eq ((p (j + 1)).y - (p j).y) with k | k
    · exact ⟨M, by rw [hM, ← k]⟩
    · exact ⟨-M, by rw [hM]; generalize (((p (j + 1)).y - (p j).y).natAbs : Int) = A at *; rw [k]; grind⟩
  generalize Pr (fun j => if (p j).y = (p (j + 1)).y then (1 : Int) else ((p (j + 1)).y - (p j).y).natAbs) n = K at *
  intro t j hj
  simp only [scl, (le_scl hK).2] at hj
  obtain ⟨M, hM⟩ := dv j (by omega)
  refine ⟨K * (p j).x + ((p (j + 1)).x - (p j).x) * (t - (p j).y) * M, on_of_h ?_ ?_ ?_⟩
  · unfold sd scl
    simp only
    generalize (p j) = a at *
    generalize (p (j + 1)) = b at *
    grind
  · show btw (K * (p j).y) (K * (p (j + 1)).y) (K * t)
    rw [btw_scl hK]; unfold btw; omega
  · show K * (p j).y ≠ K * (p (j + 1)).y
    intro e
    have := Int.eq_of_mul_eq_mul_left (by omega) e
    omega
/-- A closed way that does not meet itself goes round a spot at most once. -/
theorem turns_one {p : Nat → GP} {m : Nat} (h : Simple p m) {s : GP} (hs : ∀ j, ¬ onS (p j) (p (j + 1)) s) : turns p (m + 3) s = -1 ∨ turns p (m + 3) s = 0 ∨ turns p (m + 3) s = 1 := by
  obtain ⟨K, hK, hW⟩ := grid h.per (by omega)
  have hS := h.scl hK
  have eT : turns (fun j => scl K (p j)) (m + 3) (scl K s) = turns p (m + 3) s := by
    unfold turns
    exact Sm_congr (fun j _ => cr_scl hK _ _ _)
  rw [← eT]
  by_cases hh : ∃ x j, (scl K s).x < x ∧ onS (scl K (p j)) (scl K (p (j + 1))) ⟨x, (scl K s).y⟩
  · obtain ⟨x, j, h1, h2⟩ := hh
    have r1 := with_hit hS (hW s.y) (fun j e => hs j ((onS_scl hK).1 e)) h1 (j0 := j) h2
    obtain ⟨X, hX⟩ := left_of (fun j => scl K (p j)) (m + 3)
    have hX' : ∀ j, X < (scl K (p j)).x := fun j => by
      have := hX (j % (m + 3)) (Nat.mod_lt _ (by omega))
      rw [per_mod h.per (by omega) j]
      exact this
    have off : ∀ j, ¬ onS (scl K (p j)) (scl K (p (j + 1))) ⟨X, K * (p 0).y⟩ := by
      intro j e
      have x1 := hX' j
      have x2 := hX' (j + 1)
      have := e.2.1
      unfold btw at this
      simp only at this
      omega
    have r2 := with_hit hS (s := ⟨X, K * (p 0).y⟩) (hW (p 0).y) off (x0 := (scl K (p 0)).x) (hX' 0) (j0 := 0) ⟨sd_l _ _, by unfold btw; simp only; omega, by unfold btw scl; simp only; omega⟩
    rw [far_left hS (s := ⟨X, K * (p 0).y⟩) hX'] at r2
    omega
  · right; left
    exact no_hit (hW s.y) (fun x j hx e => hh ⟨x, j, hx, e⟩)
end Go.Beacon

