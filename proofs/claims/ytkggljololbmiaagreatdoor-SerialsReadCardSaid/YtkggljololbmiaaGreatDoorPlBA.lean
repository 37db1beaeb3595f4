/- Plain facts on what the functions compute. No program in sight. -/
import Derived.Test.YtkggljololbmiaaGreatDoorCore
/- Plain facts: integers that fit, lists by index, loops over a list as recursion. No program in sight. -/
set_option linter.unusedVariables false
namespace Go.Beacon
open Go Go.Eng

theorem w64_in {x : Int} (h1 : -9223372036854775808 ≤ x) (h2 : x ≤ 9223372036854775807) : w64 x = x := wrap_fits ⟨h1, h2⟩
theorem rem_pos {a b : Int} (h : 0 < b) (h0 : 0 ≤ a) : rem a b = some (a % b) := by
  unfold rem
  rw [if_neg (by omega), Int.tmod_eq_emod_of_nonneg h0]
theorem rem_ne {a b : Int} (h : b ≠ 0) : rem a b = some (a.tmod b) := by unfold rem; rw [if_neg h]
theorem quo_ne {a b : Int} (h : b ≠ 0) : quo a b = some (w64 (a.tdiv b)) := by unfold quo; rw [if_neg h]
theorem idx_lt {α : Type} (xs : List α) {i : Int} (h0 : 0 ≤ i) (h1 : i < xs.length) : ∃ x, idx xs i = some x ∧ x ∈ xs ∧ xs.drop i.toNat = x :: xs.drop (i + 1).toNat := by
  have h : i.toNat < xs.length := by omega
  refine ⟨xs[i.toNat], by unfold idx; rw [if_pos h0]; simp [h], List.getElem_mem h, ?_⟩
  rw [show (i + 1).toNat = i.toNat + 1 by omega]
  exact List.drop_eq_getElem_cons h
theorem idx_mem {α : Type} {xs : List α} {i : Int} {x : α} (h : idx xs i = some x) : x ∈ xs := List.mem_of_getElem? (idx_some h).2.2
theorem app_le {α : Type} {xs ys : List α} (h : xs.length + ys.length ≤ 1000000000) : app xs ys = some (xs ++ ys) := by unfold app; rw [if_pos h]
theorem slc_in {α : Type} {xs : List α} {l h : Int} (h0 : 0 ≤ l) (h1 : l ≤ h) (h2 : h ≤ xs.length) : slc xs l h = some ((xs.drop l.toNat).take (h.toNat - l.toNat)) := by
  unfold slc; rw [if_pos ⟨h0, h1, h2⟩]

/-- A loop over a list, with an early end. -/
def foldE {α σ A : Type} (step : σ → α → Int → Option (σ ⊕ A)) (fin : σ → Int → Option A) : List α → σ → Int → Option A
  | [], s, i => fin s i
  | x :: r, s, i => match step s x i with
    | none => none
    | some (.inl s') => foldE step fin r s' (i + 1)
    | some (.inr a) => some a

theorem iter_range {α σ A X : Type} (xs : List α) (mk : σ → Int → X) (f : X → Option (X ⊕ A)) (step : σ → α → Int → Option (σ ⊕ A)) (fin : σ → Int → Option A)
    (h1 : ∀ s (i : Int) x, 0 ≤ i → i < xs.length → idx xs i = some x → f (mk s i) = (step s x i).map (Sum.map (fun s' => mk s' (i + 1)) id))
    (h2 : ∀ s, f (mk s xs.length) = (fin s xs.length).map .inr) : ∀ (n : Nat) (s : σ) (i : Int), 0 ≤ i → i + n = xs.length → iter f (mk s i) = foldE step fin (xs.drop i.toNat) s i
  | 0, s, i, h0, hn => by
    have hi : i = xs.length := by omega
    subst hi
    rw [iter_eq, h2, map_inr_after]
    simp [foldE]
  | n + 1, s, i, h0, hn => by
    obtain ⟨x, hx, _, hd⟩ := idx_lt xs h0 (by omega)
    rw [iter_eq, h1 s i x h0 (by omega) hx, hd]
    simp only [foldE]
    cases hst : step s x i with
    | none => rfl
    | some u =>
      cases u with
      | inl s' => exact iter_range xs mk f step fin h1 h2 n s' (i + 1) (by omega) (by omega)
      | inr a => rfl

/-- The same, from the beginning. -/
theorem iter_range0 {α σ A X : Type} (xs : List α) (mk : σ → Int → X) (f : X → Option (X ⊕ A)) (step : σ → α → Int → Option (σ ⊕ A)) (fin : σ → Int → Option A)
    (h1 : ∀ s (i : Int) x, 0 ≤ i → i < xs.length → idx xs i = some x → f (mk s i) = (step s x i).map (Sum.map (fun s' => mk s' (i + 1)) id))
    (h2 : ∀ s, f (mk s xs.length) = (fin s xs.length).map .inr) (s : σ) : iter f (mk s 0) = foldE step fin xs s 0 :=
  iter_range xs mk f step fin h1 h2 xs.length s 0 (by omega) (by omega)

/-- A search: the first element at which something is found. -/
def findE {α A : Type} (g : α → Option A) (e : A) : List α → A
  | [] => e
  | x :: r => match g x with
    | some a => a
    | none => findE g e r
theorem iter_find {α A : Type} (xs : List α) (f : Int → Option (Int ⊕ A)) (g : α → Option A) (e : A) (hlen : (xs.length : Int) ≤ 4611686018427387904)
    (h1 : ∀ (i : Int) x, 0 ≤ i → i < xs.length → idx xs i = some x → f i = match g x with | some a => some (.inr a) | none => some (.inl (i + 1)))
    (h2 : f xs.length = some (.inr e)) : iter f 0 = some (findE g e xs) := by
  have h := iter_range0 xs (fun (_ : Unit) i => i) f (fun _ x _ => match g x with | some a => some (.inr a) | none => some (.inl ())) (fun _ _ => some e)
    (fun s i x h0 h3 h4 => by rw [h1 i x h0 h3 h4]; cases g x <;> rfl) (fun s => by rw [h2]; rfl) ()
  rw [h]
  clear h h1 h2 hlen
  suffices ∀ (xs : List α) (i : Int), foldE (fun (_ : Unit) x _ => match g x with | some a => some (.inr a) | none => some (.inl ())) (fun _ _ => some e) xs () i = some (findE g e xs) from this xs 0
  intro xs
  induction xs with
  | nil => intro i; rfl
  | cons x r ih =>
    intro i
    simp only [foldE, findE]
    cases g x with
    | none => exact ih (i + 1)
    | some a => rfl
theorem findE_bool {α : Type} (p : α → Bool) : ∀ (xs : List α), findE (fun x => if p x = true then none else some false) true xs = xs.all p
  | [] => rfl
  | x :: r => by
    simp only [findE, List.all_cons]
    cases hp : p x <;> simp [findE_bool p r]
end Go.Beacon

/- Plain facts of library functions, for lists of anything. No program in sight. -/
set_option linter.unusedVariables false
set_option linter.unusedSimpArgs false
namespace Go.Beacon
open Go Go.Eng

/-! slices.IndexFunc, slices.ContainsFunc -/
def gIndexFunc_b1 {α : Type} (xs : List α) (f : α → Option Bool) (i : Int) : Option (Int ⊕ Int) :=
  if i < (xs.length : Int) then
    (idx xs i).bind fun v3 =>
    (f v3).bind fun v4 =>
    if v4 = true then
      Option.map .inr (some i)
    else
      some (.inl (w64 (i + (1 : Int))))
  else
    Option.map .inr (some (-1 : Int))
noncomputable def gIndexFunc {α : Type} (xs : List α) (f : α → Option Bool) : Option Int := iter (fun x : Int => gIndexFunc_b1 xs f x) 0
noncomputable def gContainsFunc {α : Type} (xs : List α) (f : α → Option Bool) : Option Bool := (gIndexFunc xs f).bind fun v1 => some (decide ((0 : Int) ≤ v1))
/-- The place of the first element of a kind; -1 if there is none. -/
def findI {α : Type} (p : α → Bool) : List α → Int → Int
  | [], _ => -1
  | x :: r, i => if p x = true then i else findI p r (i + 1)
theorem findI_any {α : Type} (p : α → Bool) : ∀ (xs : List α) (i : Int), 0 ≤ i → (0 ≤ findI p xs i ↔ xs.any p = true)
  | [], i, h => by simp [findI]
  | x :: r, i, h => by
    have := findI_any p r (i + 1) (by omega)
    simp only [findI, List.any_cons, Bool.or_eq_true]
    split
    · rename_i hp; simp [hp, h]
    · rename_i hp
      have hp' : p x = false := by simpa using hp
      simp only [hp', Bool.false_eq_true, false_or]; exact this
theorem gIndexFunc_loop {α : Type} (xs : List α) (f : α → Option Bool) (p : α → Bool) (hf : ∀ x ∈ xs, f x = some (p x)) (hb : (xs.length : Int) ≤ 4611686018427387904) : ∀ (n : Nat) (i : Int), 0 ≤ i → i + n = xs.length →
    iter (fun x : Int => gIndexFunc_b1 xs f x) i = some (findI p (xs.drop i.toNat) i)
  | 0, i, h0, hn => by
    rw [iter_eq, gIndexFunc_b1, if_neg (by omega), List.drop_of_length_le (by omega)]; rfl
  | n + 1, i, h0, hn => by
    obtain ⟨x, hx, hm, hd⟩ := idx_lt xs h0 (by omega)
    rw [iter_eq, gIndexFunc_b1, if_pos (by omega), hx, hd]
    simp only [Option.bind_some, hf x hm, findI]
    split
    · rfl
    · simp only [Option.bind_some, after_inl]
      rw [w64_in (by omega) (by omega)]
      exact gIndexFunc_loop xs f p hf hb n (i + 1) (by omega) (by omega)
theorem gIndexFunc_eq {α : Type} (xs : List α) (f : α → Option Bool) (p : α → Bool) (hf : ∀ x ∈ xs, f x = some (p x)) (hb : (xs.length : Int) ≤ 4611686018427387904) : gIndexFunc xs f = some (findI p xs 0) := by
  unfold gIndexFunc
  rw [gIndexFunc_loop xs f p hf hb xs.length 0 (by omega) (by omega)]; simp
theorem gContainsFunc_eq {α : Type} (xs : List α) (f : α → Option Bool) (p : α → Bool) (hf : ∀ x ∈ xs, f x = some (p x)) (hb : (xs.length : Int) ≤ 4611686018427387904) : gContainsFunc xs f = some (xs.any p) := by
  unfold gContainsFunc
  rw [gIndexFunc_eq xs f p hf hb]
  simp only [Option.bind_some, Option.some.injEq]
  rw [Bool.eq_iff_iff, decide_eq_true_eq]
  exact findI_any p xs 0 (by omega)

theorem cmpB_self : ∀ l : List UInt8, Lib.compareBytes l l = 0
  | [] => rfl
  | a :: l => by simp only [Lib.compareBytes]; rw [if_neg (by simp), if_neg (by simp)]; exact cmpB_self l
theorem u8_lt_irrefl (a : UInt8) : ¬ a < a := by simp
theorem u8_tri (a b : UInt8) : a < b ∨ a = b ∨ b < a := by
  rcases Nat.lt_trichotomy a.toNat b.toNat with h | h | h
  · exact .inl h
  · exact .inr (.inl (UInt8.toNat_inj.1 h))
  · exact .inr (.inr h)
theorem u8_asymm {a b : UInt8} (h : a < b) : ¬ b < a := by
  rw [UInt8.lt_iff_toNat_lt] at *; omega
theorem cmpB_vals : ∀ a b : List UInt8, Lib.compareBytes a b = -1 ∨ Lib.compareBytes a b = 0 ∨ Lib.compareBytes a b = 1
  | [], [] => by simp [Lib.compareBytes]
  | [], _ :: _ => by simp [Lib.compareBytes]
  | _ :: _, [] => by simp [Lib.compareBytes]
  | a :: la, b :: lb => by
    simp only [Lib.compareBytes]
    split
    · simp
    · split
      · simp
      · exact cmpB_vals la lb
theorem cmpB_zero : ∀ {a b : List UInt8}, Lib.compareBytes a b = 0 → a = b
  | [], [], _ => rfl
  | [], _ :: _, h => by simp [Lib.compareBytes] at h
  | _ :: _, [], h => by simp [Lib.compareBytes] at h
  | a :: la, b :: lb, h => by
    simp only [Lib.compareBytes] at h
    split at h
    · simp at h
    · split at h
      · simp at h
      · rename_i h1 h2
        rcases u8_tri a b with h3 | h3 | h3
        · exact absurd h3 h1
        · rw [h3, cmpB_zero h]
        · exact absurd h3 h2
theorem less_iff : ∀ a b : List UInt8, Op.bytesLess a b = decide (Lib.compareBytes a b < 0)
  | [], [] => by simp [Op.bytesLess, Lib.compareBytes]
  | [], _ :: _ => by simp [Op.bytesLess, Lib.compareBytes]
  | _ :: _, [] => by simp [Op.bytesLess, Lib.compareBytes]
  | a :: la, b :: lb => by
    simp only [Op.bytesLess, Lib.compareBytes]
    rcases u8_tri a b with h | h | h
    · simp [h]
    · subst h; simp [less_iff la lb]
    · have h1 := u8_asymm h
      have h2 : (a == b) = false := by
        rw [beq_eq_false_iff_ne]; intro e; subst e; exact u8_lt_irrefl _ h
      simp [h, h1, h2]
theorem beq_cmp (a b : List UInt8) : (a == b) = decide (Lib.compareBytes a b = 0) := by
  rw [Bool.eq_iff_iff]
  simp only [beq_iff_eq, decide_eq_true_eq]
  exact ⟨fun h => by rw [h]; exact cmpB_self b, cmpB_zero⟩
/-! bytes -/
theorem indexByte_nonneg : ∀ (l : List UInt8) (c : UInt8), (Lib.indexByte l c < 0) ↔ c ∉ l
  | [], c => by simp [Lib.indexByte]
  | b :: l, c => by
    have ih := indexByte_nonneg l c
    have hge := Lib.indexByte_ge l c
    simp only [Lib.indexByte, List.mem_cons, not_or]
    by_cases hb : b = c
    · subst hb; simp
    · rw [if_neg (by simpa using hb)]
      by_cases h1 : Lib.indexByte l c = -1
      · rw [h1] at ih
        simp only [h1, beq_self_eq_true, if_true]
        exact ⟨fun _ => ⟨fun e => hb e.symm, ih.1 (by omega)⟩, fun _ => by omega⟩
      · rw [if_neg (by simpa using h1)]
        exact ⟨fun h => by omega, fun h => absurd (ih.2 h.2) (by omega)⟩
theorem toU8 (c : UInt8) : ((c.toNat : Int)).toNat.toUInt8 = c := by simp
end Go.Beacon

/- Plain facts of sorting, compacting, deleting and joining lists of anything. No program in sight. -/
set_option linter.unusedVariables false
set_option linter.unusedSimpArgs false
namespace Go.Beacon
open Go Go.Eng

/-- An order: less, as a comparison tells. -/
structure Ord3 {α : Type} (cf : α → α → Int) (xs : List α) : Prop where
  irr : ∀ x ∈ xs, ¬ cf x x < 0
  tr : ∀ x ∈ xs, ∀ y ∈ xs, ∀ z ∈ xs, cf x y < 0 → cf y z < 0 → cf x z < 0
  ntr : ∀ x ∈ xs, ∀ y ∈ xs, ∀ z ∈ xs, ¬ cf x y < 0 → ¬ cf y z < 0 → ¬ cf x z < 0
theorem Ord3.mono {α : Type} {cf : α → α → Int} {xs ys : List α} (h : Ord3 cf xs) (hs : ∀ y ∈ ys, y ∈ xs) : Ord3 cf ys :=
  ⟨fun x hx => h.irr x (hs x hx), fun x hx y hy z hz => h.tr x (hs x hx) y (hs y hy) z (hs z hz), fun x hx y hy z hz => h.ntr x (hs x hx) y (hs y hy) z (hs z hz)⟩

end Go.Beacon

/- Plain facts of compacting, deleting and joining lists of anything. No program in sight. -/
set_option linter.unusedVariables false
set_option linter.unusedSimpArgs false
namespace Go.Beacon
open Go Go.Eng

/-- Without what is like the one ahead of it. -/
def ddA {α : Type} (e : α → α → Bool) : α → List α → List α
  | _, [] => []
  | p, y :: r => if e y p = true then ddA e y r else y :: ddA e y r
def dd {α : Type} (e : α → α → Bool) : List α → List α
  | [] => []
  | x :: r => x :: ddA e x r
theorem findI_first {α : Type} (p : α → Bool) : ∀ (xs : List α) (i : Int), 0 ≤ i → (findI p xs i = -1 ∧ ∀ x ∈ xs, p x = false) ∨ (i ≤ findI p xs i ∧ findI p xs i < i + xs.length ∧ (∀ x ∈ xs.take (findI p xs i - i).toNat, p x = false) ∧ ∃ y, xs[(findI p xs i - i).toNat]? = some y ∧ p y = true)
  | [], i, h => .inl ⟨rfl, by simp⟩
  | x :: r, i, h => by
    by_cases hp : p x = true
    · have e : findI p (x :: r) i = i := by simp [findI, hp]
      rw [e]
      exact .inr ⟨by omega, by simp; omega, by simp, x, by simp, hp⟩
    · have e : findI p (x :: r) i = findI p r (i + 1) := by simp [findI, hp]
      rw [e]
      have hp' : p x = false := by simpa using hp
      rcases findI_first p r (i + 1) (by omega) with ⟨h1, h2⟩ | ⟨h1, h2, h3, y, h4, h5⟩
      · exact .inl ⟨h1, fun y hy => by rcases List.mem_cons.1 hy with rfl | hy; exact hp'; exact h2 y hy⟩
      · have e : (findI p r (i + 1) - i).toNat = (findI p r (i + 1) - (i + 1)).toNat + 1 := by omega
        refine .inr ⟨by omega, by simp; omega, ?_, y, ?_, h5⟩
        · rw [e]
          intro y hy
          rw [List.take_succ_cons] at hy
          rcases List.mem_cons.1 hy with rfl | hy
          · exact hp'
          · exact h3 y hy
        · rw [e, List.getElem?_cons_succ]; exact h4
end Go.Beacon

/- Plain merging: orders, sorted lists without twins. For any type. No program in sight. -/
set_option linter.unusedVariables false
set_option linter.unusedSimpArgs false
namespace Go.Beacon
open Go Go.Eng

/-- A comparison in three ways. -/
structure Cmp3 {α : Type} (c : α → α → Int) : Prop where
  neg : ∀ a b, c a b = - c b a
  tr : ∀ {a b d}, c a b < 0 → c b d < 0 → c a d < 0
  cg : ∀ {a b d}, c a b = 0 → c b d < 0 → c a d < 0
theorem Cmp3.zero {α : Type} {c : α → α → Int} (h : Cmp3 c) (a : α) : c a a = 0 := by have := h.neg a a; omega
theorem Cmp3.on {α β : Type} {c : α → α → Int} (h : Cmp3 c) (f : β → α) : Cmp3 (fun a b => c (f a) (f b)) :=
  ⟨fun a b => h.neg _ _, fun h1 h2 => h.tr h1 h2, fun h1 h2 => h.cg h1 h2⟩
/-! checks of a list, element by element, each with the one before it -/
def prevOf {α : Type} (xs : List α) (i : Int) : Option α := if i ≤ 0 then none else idx xs (i - 1)
end Go.Beacon

