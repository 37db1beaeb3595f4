/- Plain facts: integers that fit, lists by index, loops over a list as recursion. No program in sight. -/
import Derived.Test.YtmlgacejioccmaaGreatDoorCore
set_option linter.unusedVariables false
namespace Go.Beacon
open Go Go.Eng

theorem w64_in {x : Int} (h1 : -9223372036854775808 ≤ x) (h2 : x ≤ 9223372036854775807) : w64 x = x := wrap_fits ⟨h1, h2⟩
theorem wrap_in {x : Int} (h1 : -9223372036854775808 ≤ x) (h2 : x ≤ 9223372036854775807) : IntKind.i64.wrap x = x := wrap_fits ⟨h1, h2⟩

theorem quo_pos {a b : Int} (h : 0 < b) (h0 : 0 ≤ a) (h1 : a ≤ 9223372036854775807) : quo a b = some (a / b) := by
  unfold quo
  rw [if_neg (by omega), Int.tdiv_eq_ediv_of_nonneg h0, w64_in]
  · have := Int.ediv_nonneg h0 (Int.le_of_lt h); omega
  · have := Int.ediv_le_self b h0; omega
theorem rem_pos {a b : Int} (h : 0 < b) (h0 : 0 ≤ a) : rem a b = some (a % b) := by
  unfold rem
  rw [if_neg (by omega), Int.tmod_eq_emod_of_nonneg h0]
theorem rem_ne {a b : Int} (h : b ≠ 0) : rem a b = some (a.tmod b) := by unfold rem; rw [if_neg h]
theorem quo_ne {a b : Int} (h : b ≠ 0) : quo a b = some (w64 (a.tdiv b)) := by unfold quo; rw [if_neg h]
/-- Rounded down: what the quotient and the rest tell. -/
theorem ediv_of_t {a b : Int} (h : 0 < b) : a / b = if a.tmod b < 0 then a.tdiv b - 1 else a.tdiv b := by
  have h1 := Int.tmod_add_mul_tdiv a b
  split
  · rename_i hlt
    have hb : -b < a.tmod b := by
      have := Int.lt_tmod_of_pos a h; omega
    apply Int.le_antisymm
    · apply Int.le_of_lt_add_one
      rw [Int.ediv_lt_iff_lt_mul h, Int.add_mul, Int.sub_mul, Int.mul_comm _ b]; omega
    · rw [Int.le_ediv_iff_mul_le h, Int.sub_mul, Int.mul_comm _ b]; omega
  · rename_i hge
    have hb := Int.tmod_lt_of_pos a h
    apply Int.le_antisymm
    · apply Int.le_of_lt_add_one
      rw [Int.ediv_lt_iff_lt_mul h, Int.add_mul, Int.mul_comm _ b]; omega
    · rw [Int.le_ediv_iff_mul_le h, Int.mul_comm _ b]; omega

theorem idx_lt {α : Type} (xs : List α) {i : Int} (h0 : 0 ≤ i) (h1 : i < xs.length) : ∃ x, idx xs i = some x ∧ x ∈ xs ∧ xs.drop i.toNat = x :: xs.drop (i + 1).toNat := by
  have h : i.toNat < xs.length := by omega
  refine ⟨xs[i.toNat], by unfold idx; rw [if_pos h0]; simp [h], List.getElem_mem h, ?_⟩
  rw [show (i + 1).toNat = i.toNat + 1 by omega]
  exact List.drop_eq_getElem_cons h
theorem idx_mem {α : Type} {xs : List α} {i : Int} {x : α} (h : idx xs i = some x) : x ∈ xs := List.mem_of_getElem? (idx_some h).2.2
theorem idx_drop {α : Type} {xs : List α} {i : Int} {x : α} (h : idx xs i = some x) : xs.drop i.toNat = x :: xs.drop (i + 1).toNat := by
  obtain ⟨h0, h1, _⟩ := idx_some h
  obtain ⟨y, hy, _, hd⟩ := idx_lt xs h0 h1
  rw [h] at hy; obtain rfl := Option.some.inj hy
  exact hd
theorem idx_none {α : Type} {xs : List α} {i : Int} (h : i < 0 ∨ xs.length ≤ i) : idx xs i = none := by
  unfold idx
  split
  · rw [List.getElem?_eq_none (by omega)]
  · rfl
theorem app_le {α : Type} {xs ys : List α} (h : xs.length + ys.length ≤ 1000000000) : app xs ys = some (xs ++ ys) := by unfold app; rw [if_pos h]
theorem slc_in {α : Type} {xs : List α} {l h : Int} (h0 : 0 ≤ l) (h1 : l ≤ h) (h2 : h ≤ xs.length) : slc xs l h = some ((xs.drop l.toNat).take (h.toNat - l.toNat)) := by
  unfold slc; rw [if_pos ⟨h0, h1, h2⟩]

/-- A loop over a list, with an early end. -/
def foldE {α σ A : Type} (step : σ → α → Int → Option (σ ⊕ A)) (fin : σ → Int → Option A) : List α → σ → Int → Option A
  | [], s, i => fin s i
  | x :: r, s, i => match step s x i with
    | none => none
    | some (.inl s') => foldE step fin r s' (i + 1)
    | some (.inr a) => some a

theorem iter_range {α σ A X : Type} (xs : List α) (mk : σ → Int → X) (f : X → Option (X ⊕ A)) (step : σ → α → Int → Option (σ ⊕ A)) (fin : σ → Int → Option A)
    (h1 : ∀ s (i : Int) x, 0 ≤ i → i < xs.length → idx xs i = some x → f (mk s i) = (step s x i).map (Sum.map (fun s' => mk s' (i + 1)) id))
    (h2 : ∀ s, f (mk s xs.length) = (fin s xs.length).map .inr) : ∀ (n : Nat) (s : σ) (i : Int), 0 ≤ i → i + n = xs.length → iter f (mk s i) = foldE step fin (xs.drop i.toNat) s i
  | 0, s, i, h0, hn => by
    have hi : i = xs.length := by omega
    subst hi
    rw [iter_eq, h2, map_inr_after]
    simp [foldE]
  | n + 1, s, i, h0, hn => by
    obtain ⟨x, hx, _, hd⟩ := idx_lt xs h0 (by omega)
    rw [iter_eq, h1 s i x h0 (by omega) hx, hd]
    simp only [foldE]
    cases hst : step s x i with
    | none => rfl
    | some u =>
      cases u with
      | inl s' => exact iter_range xs mk f step fin h1 h2 n s' (i + 1) (by omega) (by omega)
      | inr a => rfl

/-- The same, from the beginning. -/
theorem iter_range0 {α σ A X : Type} (xs : List α) (mk : σ → Int → X) (f : X → Option (X ⊕ A)) (step : σ → α → Int → Option (σ ⊕ A)) (fin : σ → Int → Option A)
    (h1 : ∀ s (i : Int) x, 0 ≤ i → i < xs.length → idx xs i = some x → f (mk s i) = (step s x i).map (Sum.map (fun s' => mk s' (i + 1)) id))
    (h2 : ∀ s, f (mk s xs.length) = (fin s xs.length).map .inr) (s : σ) : iter f (mk s 0) = foldE step fin xs s 0 :=
  iter_range xs mk f step fin h1 h2 xs.length s 0 (by omega) (by omega)

/-- A search: the first element at which something is found. -/
def findE {α A : Type} (g : α → Option A) (e : A) : List α → A
  | [] => e
  | x :: r => match g x with
    | some a => a
    | none => findE g e r
theorem iter_find {α A : Type} (xs : List α) (f : Int → Option (Int ⊕ A)) (g : α → Option A) (e : A) (hlen : (xs.length : Int) ≤ 4611686018427387904)
    (h1 : ∀ (i : Int) x, 0 ≤ i → i < xs.length → idx xs i = some x → f i = match g x with | some a => some (.inr a) | none => some (.inl (i + 1)))
    (h2 : f xs.length = some (.inr e)) : iter f 0 = some (findE g e xs) := by
  have h := iter_range0 xs (fun (_ : Unit) i => i) f (fun _ x _ => match g x with | some a => some (.inr a) | none => some (.inl ())) (fun _ _ => some e)
    (fun s i x h0 h3 h4 => by rw [h1 i x h0 h3 h4]; cases g x <;> rfl) (fun s => by rw [h2]; rfl) ()
  rw [h]
  clear h h1 h2 hlen
  suffices ∀ (xs : List α) (i : Int), foldE (fun (_ : Unit) x _ => match g x with | some a => some (.inr a) | none => some (.inl ())) (fun _ _ => some e) xs () i = some (findE g e xs) from this xs 0
  intro xs
  induction xs with
  | nil => intro i; rfl
  | cons x r ih =>
    intro i
    simp only [foldE, findE]
    cases g x with
    | none => exact ih (i + 1)
    | some a => rfl
theorem findE_bool {α : Type} (p : α → Bool) : ∀ (xs : List α), findE (fun x => if p x = true then none else some false) true xs = xs.all p
  | [] => rfl
  | x :: r => by
    simp only [findE, List.all_cons]
    cases hp : p x <;> simp [findE_bool p r]
theorem findE_any {α : Type} (p : α → Bool) : ∀ (xs : List α), findE (fun x => if p x = true then some true else none) false xs = xs.any p
  | [] => rfl
  | x :: r => by
    simp only [findE, List.any_cons]
    cases hp : p x <;> simp [findE_any p r]
end Go.Beacon
