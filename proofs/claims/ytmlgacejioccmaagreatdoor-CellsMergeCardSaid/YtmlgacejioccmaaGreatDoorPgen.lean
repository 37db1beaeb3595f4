/- Plain facts of library functions, for lists of anything. No program in sight. -/
import Derived.Test.YtmlgacejioccmaaGreatDoorPc
set_option linter.unusedVariables false
set_option linter.unusedSimpArgs false
namespace Go.Beacon
open Go Go.Eng

/-! slices.Equal -/
def gEqual_b1 {α : Type} [DecidableEq α] (xs ys : List α) (i : Int) : Option (Int ⊕ Bool) :=
  if i < (xs.length : Int) then
    (idx xs i).bind fun v3 =>
    (idx ys i).bind fun v4 =>
    if v3 ≠ v4 then
      Option.map .inr (some false)
    else
      some (.inl (w64 (i + (1 : Int))))
  else
    Option.map .inr (some true)
noncomputable def gEqual {α : Type} [DecidableEq α] (xs ys : List α) : Option Bool :=
  if (xs.length : Int) ≠ (ys.length : Int) then
    some false
  else
    iter (fun x : Int => gEqual_b1 xs ys x) 0
theorem gEqual_loop {α : Type} [DecidableEq α] (xs ys : List α) (hl : xs.length = ys.length) (hb : (xs.length : Int) ≤ 4611686018427387904) : ∀ (n : Nat) (i : Int), 0 ≤ i → i + n = xs.length →
    iter (fun x : Int => gEqual_b1 xs ys x) i = some (decide (xs.drop i.toNat = ys.drop i.toNat))
  | 0, i, h0, hn => by
    rw [iter_eq, gEqual_b1, if_neg (by omega), List.drop_of_length_le (by omega), List.drop_of_length_le (by omega)]; simp
  | n + 1, i, h0, hn => by
    obtain ⟨x, hx, _, hd⟩ := idx_lt xs h0 (by omega)
    obtain ⟨y, hy, _, hd'⟩ := idx_lt ys h0 (by omega)
    rw [iter_eq, gEqual_b1, if_pos (by omega), hx, hy, hd, hd']
    simp only [Option.bind_some]
    by_cases hxy : x = y
    · subst hxy
      rw [if_neg (by simp)]
      simp only [Option.bind_some, after_inl]
      rw [w64_in (by omega) (by omega)]
      have := gEqual_loop xs ys hl hb n (i + 1) (by omega) (by omega)
      rw [this]; simp
    · rw [if_pos hxy]; simp [hxy]
theorem gEqual_eq {α : Type} [DecidableEq α] (xs ys : List α) (hb : (xs.length : Int) ≤ 4611686018427387904) : gEqual xs ys = some (decide (xs = ys)) := by
  unfold gEqual
  by_cases h : xs.length = ys.length
  · rw [if_neg (by omega), gEqual_loop xs ys h hb xs.length 0 (by omega) (by omega)]; simp
  · rw [if_pos (by omega), decide_eq_false (fun e => h (by rw [e]))]

/-! slices.IndexFunc, slices.ContainsFunc -/
def gIndexFunc_b1 {α : Type} (xs : List α) (f : α → Option Bool) (i : Int) : Option (Int ⊕ Int) :=
  if i < (xs.length : Int) then
    (idx xs i).bind fun v3 =>
    (f v3).bind fun v4 =>
    if v4 = true then
      Option.map .inr (some i)
    else
      some (.inl (w64 (i + (1 : Int))))
  else
    Option.map .inr (some (-1 : Int))
noncomputable def gIndexFunc {α : Type} (xs : List α) (f : α → Option Bool) : Option Int := iter (fun x : Int => gIndexFunc_b1 xs f x) 0
noncomputable def gContainsFunc {α : Type} (xs : List α) (f : α → Option Bool) : Option Bool := (gIndexFunc xs f).bind fun v1 => some (decide ((0 : Int) ≤ v1))
/-- The place of the first element of a kind; -1 if there is none. -/
def findI {α : Type} (p : α → Bool) : List α → Int → Int
  | [], _ => -1
  | x :: r, i => if p x = true then i else findI p r (i + 1)
theorem findI_any {α : Type} (p : α → Bool) : ∀ (xs : List α) (i : Int), 0 ≤ i → (0 ≤ findI p xs i ↔ xs.any p = true)
  | [], i, h => by simp [findI]
  | x :: r, i, h => by
    have := findI_any p r (i + 1) (by omega)
    simp only [findI, List.any_cons, Bool.or_eq_true]
    split
    · rename_i hp; simp [hp, h]
    · rename_i hp
      have hp' : p x = false := by simpa using hp
      simp only [hp', Bool.false_eq_true, false_or]; exact this
theorem gIndexFunc_loop {α : Type} (xs : List α) (f : α → Option Bool) (p : α → Bool) (hf : ∀ x ∈ xs, f x = some (p x)) (hb : (xs.length : Int) ≤ 4611686018427387904) : ∀ (n : Nat) (i : Int), 0 ≤ i → i + n = xs.length →
    iter (fun x : Int => gIndexFunc_b1 xs f x) i = some (findI p (xs.drop i.toNat) i)
  | 0, i, h0, hn => by
    rw [iter_eq, gIndexFunc_b1, if_neg (by omega), List.drop_of_length_le (by omega)]; rfl
  | n + 1, i, h0, hn => by
    obtain ⟨x, hx, hm, hd⟩ := idx_lt xs h0 (by omega)
    rw [iter_eq, gIndexFunc_b1, if_pos (by omega), hx, hd]
    simp only [Option.bind_some, hf x hm, findI]
    split
    · rfl
    · simp only [Option.bind_some, after_inl]
      rw [w64_in (by omega) (by omega)]
      exact gIndexFunc_loop xs f p hf hb n (i + 1) (by omega) (by omega)
theorem gIndexFunc_eq {α : Type} (xs : List α) (f : α → Option Bool) (p : α → Bool) (hf : ∀ x ∈ xs, f x = some (p x)) (hb : (xs.length : Int) ≤ 4611686018427387904) : gIndexFunc xs f = some (findI p xs 0) := by
  unfold gIndexFunc
  rw [gIndexFunc_loop xs f p hf hb xs.length 0 (by omega) (by omega)]; simp
theorem gContainsFunc_eq {α : Type} (xs : List α) (f : α → Option Bool) (p : α → Bool) (hf : ∀ x ∈ xs, f x = some (p x)) (hb : (xs.length : Int) ≤ 4611686018427387904) : gContainsFunc xs f = some (xs.any p) := by
  unfold gContainsFunc
  rw [gIndexFunc_eq xs f p hf hb]
  simp only [Option.bind_some, Option.some.injEq]
  rw [Bool.eq_iff_iff, decide_eq_true_eq]
  exact findI_any p xs 0 (by omega)

/-! the first number that is not 0 -/
def gOr_b1 (xs : List Int) (i : Int) : Option (Int ⊕ Int) :=
  if i < (xs.length : Int) then
    (idx xs i).bind fun v3 =>
    if v3 ≠ (0 : Int) then
      Option.map .inr (some v3)
    else
      some (.inl (w64 (i + (1 : Int))))
  else
    Option.map .inr (some (0 : Int))
noncomputable def gOr (xs : List Int) : Option Int := iter (fun x : Int => gOr_b1 xs x) 0
def orL : List Int → Int
  | [] => 0
  | x :: r => if x ≠ 0 then x else orL r
theorem gOr_eq (xs : List Int) (hb : (xs.length : Int) ≤ 4611686018427387904) : gOr xs = some (orL xs) := by
  unfold gOr
  rw [iter_find xs (fun x : Int => gOr_b1 xs x) (fun x => if x ≠ 0 then some x else none) 0 hb]
  · congr 1
    clear hb
    induction xs with
    | nil => rfl
    | cons x r ih =>
      simp only [findE, orL]
      by_cases h : x = 0
      · subst h; simpa using ih
      · simp [h]
  · intro i x h0 h1 hx
    unfold gOr_b1
    rw [if_pos h1, hx]
    simp only [Option.bind_some]
    by_cases h : x = 0
    · rw [w64_in (by omega) (by omega)]; simp [h]
    · simp [h]
  · unfold gOr_b1; rw [if_neg (by omega)]; rfl

/-! comparing -/
def cmpI (a b : Int) : Int := if a < b then -1 else if b < a then 1 else 0
theorem cmpB_self : ∀ l : List UInt8, Lib.compareBytes l l = 0
  | [] => rfl
  | a :: l => by simp only [Lib.compareBytes]; rw [if_neg (by simp), if_neg (by simp)]; exact cmpB_self l
theorem u8_lt_irrefl (a : UInt8) : ¬ a < a := by simp
theorem u8_tri (a b : UInt8) : a < b ∨ a = b ∨ b < a := by
  rcases Nat.lt_trichotomy a.toNat b.toNat with h | h | h
  · exact .inl h
  · exact .inr (.inl (UInt8.toNat_inj.1 h))
  · exact .inr (.inr h)
theorem u8_asymm {a b : UInt8} (h : a < b) : ¬ b < a := by
  rw [UInt8.lt_iff_toNat_lt] at *; omega
theorem cmpB_neg : ∀ a b : List UInt8, Lib.compareBytes a b = - Lib.compareBytes b a
  | [], [] => rfl
  | [], _ :: _ => rfl
  | _ :: _, [] => rfl
  | a :: la, b :: lb => by
    simp only [Lib.compareBytes]
    rcases u8_tri a b with h | h | h
    · rw [if_pos h, if_neg (u8_asymm h), if_pos h]
    · subst h
      rw [if_neg (by simp), if_neg (by simp), if_neg (by simp), if_neg (by simp)]; exact cmpB_neg la lb
    · rw [if_neg (u8_asymm h), if_pos h, if_pos h]; rfl
theorem cmpB_vals : ∀ a b : List UInt8, Lib.compareBytes a b = -1 ∨ Lib.compareBytes a b = 0 ∨ Lib.compareBytes a b = 1
  | [], [] => by simp [Lib.compareBytes]
  | [], _ :: _ => by simp [Lib.compareBytes]
  | _ :: _, [] => by simp [Lib.compareBytes]
  | a :: la, b :: lb => by
    simp only [Lib.compareBytes]
    split
    · simp
    · split
      · simp
      · exact cmpB_vals la lb
theorem cmpB_zero : ∀ {a b : List UInt8}, Lib.compareBytes a b = 0 → a = b
  | [], [], _ => rfl
  | [], _ :: _, h => by simp [Lib.compareBytes] at h
  | _ :: _, [], h => by simp [Lib.compareBytes] at h
  | a :: la, b :: lb, h => by
    simp only [Lib.compareBytes] at h
    split at h
    · simp at h
    · split at h
      · simp at h
      · rename_i h1 h2
        rcases u8_tri a b with h3 | h3 | h3
        · exact absurd h3 h1
        · rw [h3, cmpB_zero h]
        · exact absurd h3 h2
theorem less_iff : ∀ a b : List UInt8, Op.bytesLess a b = decide (Lib.compareBytes a b < 0)
  | [], [] => by simp [Op.bytesLess, Lib.compareBytes]
  | [], _ :: _ => by simp [Op.bytesLess, Lib.compareBytes]
  | _ :: _, [] => by simp [Op.bytesLess, Lib.compareBytes]
  | a :: la, b :: lb => by
    simp only [Op.bytesLess, Lib.compareBytes]
    rcases u8_tri a b with h | h | h
    · simp [h]
    · subst h; simp [less_iff la lb]
    · have h1 := u8_asymm h
      have h2 : (a == b) = false := by
        rw [beq_eq_false_iff_ne]; intro e; subst e; exact u8_lt_irrefl _ h
      simp [h, h1, h2]
theorem beq_cmp (a b : List UInt8) : (a == b) = decide (Lib.compareBytes a b = 0) := by
  rw [Bool.eq_iff_iff]
  simp only [beq_iff_eq, decide_eq_true_eq]
  exact ⟨fun h => by rw [h]; exact cmpB_self b, cmpB_zero⟩
/-- The comparison of strings by < and >. -/
theorem cmp_ops (a b : List UInt8) : (if Op.bytesLess a b = true then (-1 : Int) else if (!(Op.bytesLess a b || a == b)) = true then 1 else 0) = Lib.compareBytes a b := by
  rw [less_iff, beq_cmp]
  rcases cmpB_vals a b with h | h | h <;> simp [h]

/-! bytes -/
theorem indexByte_nonneg : ∀ (l : List UInt8) (c : UInt8), (Lib.indexByte l c < 0) ↔ c ∉ l
  | [], c => by simp [Lib.indexByte]
  | b :: l, c => by
    have ih := indexByte_nonneg l c
    have hge := Lib.indexByte_ge l c
    simp only [Lib.indexByte, List.mem_cons, not_or]
    by_cases hb : b = c
    · subst hb; simp
    · rw [if_neg (by simpa using hb)]
      by_cases h1 : Lib.indexByte l c = -1
      · rw [h1] at ih
        simp only [h1, beq_self_eq_true, if_true]
        exact ⟨fun _ => ⟨fun e => hb e.symm, ih.1 (by omega)⟩, fun _ => by omega⟩
      · rw [if_neg (by simpa using h1)]
        exact ⟨fun h => by omega, fun h => absurd (ih.2 h.2) (by omega)⟩
theorem toU8 (c : UInt8) : ((c.toNat : Int)).toNat.toUInt8 = c := by simp
end Go.Beacon
