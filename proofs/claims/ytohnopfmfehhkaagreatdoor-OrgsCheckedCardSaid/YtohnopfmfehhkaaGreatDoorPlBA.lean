/- Plain facts on what the functions compute. No program in sight. -/
import Derived.Test.YtohnopfmfehhkaaGreatDoorCore
/- Plain facts: integers that fit, lists by index, loops over a list as recursion. No program in sight. -/
set_option linter.unusedVariables false
namespace Go.Beacon
open Go Go.Eng

theorem w64_in {x : Int} (h1 : -9223372036854775808 ≤ x) (h2 : x ≤ 9223372036854775807) : w64 x = x := wrap_fits ⟨h1, h2⟩
theorem rem_pos {a b : Int} (h : 0 < b) (h0 : 0 ≤ a) : rem a b = some (a % b) := by
  unfold rem
  rw [if_neg (by omega), Int.tmod_eq_emod_of_nonneg h0]
theorem rem_ne {a b : Int} (h : b ≠ 0) : rem a b = some (a.tmod b) := by unfold rem; rw [if_neg h]
theorem quo_ne {a b : Int} (h : b ≠ 0) : quo a b = some (w64 (a.tdiv b)) := by unfold quo; rw [if_neg h]
theorem idx_lt {α : Type} (xs : List α) {i : Int} (h0 : 0 ≤ i) (h1 : i < xs.length) : ∃ x, idx xs i = some x ∧ x ∈ xs ∧ xs.drop i.toNat = x :: xs.drop (i + 1).toNat := by
  have h : i.toNat < xs.length := by omega
  refine ⟨xs[i.toNat], by unfold idx; rw [if_pos h0]; simp [h], List.getElem_mem h, ?_⟩
  rw [show (i + 1).toNat = i.toNat + 1 by omega]
  exact List.drop_eq_getElem_cons h
theorem idx_mem {α : Type} {xs : List α} {i : Int} {x : α} (h : idx xs i = some x) : x ∈ xs := List.mem_of_getElem? (idx_some h).2.2
theorem app_le {α : Type} {xs ys : List α} (h : xs.length + ys.length ≤ 1000000000) : app xs ys = some (xs ++ ys) := by unfold app; rw [if_pos h]
theorem slc_in {α : Type} {xs : List α} {l h : Int} (h0 : 0 ≤ l) (h1 : l ≤ h) (h2 : h ≤ xs.length) : slc xs l h = some ((xs.drop l.toNat).take (h.toNat - l.toNat)) := by
  unfold slc; rw [if_pos ⟨h0, h1, h2⟩]

/-- A loop over a list, with an early end. -/
def foldE {α σ A : Type} (step : σ → α → Int → Option (σ ⊕ A)) (fin : σ → Int → Option A) : List α → σ → Int → Option A
  | [], s, i => fin s i
  | x :: r, s, i => match step s x i with
    | none => none
    | some (.inl s') => foldE step fin r s' (i + 1)
    | some (.inr a) => some a

theorem iter_range {α σ A X : Type} (xs : List α) (mk : σ → Int → X) (f : X → Option (X ⊕ A)) (step : σ → α → Int → Option (σ ⊕ A)) (fin : σ → Int → Option A)
    (h1 : ∀ s (i : Int) x, 0 ≤ i → i < xs.length → idx xs i = some x → f (mk s i) = (step s x i).map (Sum.map (fun s' => mk s' (i + 1)) id))
    (h2 : ∀ s, f (mk s xs.length) = (fin s xs.length).map .inr) : ∀ (n : Nat) (s : σ) (i : Int), 0 ≤ i → i + n = xs.length → iter f (mk s i) = foldE step fin (xs.drop i.toNat) s i
  | 0, s, i, h0, hn => by
    have hi : i = xs.length := by omega
    subst hi
    rw [iter_eq, h2, map_inr_after]
    simp [foldE]
  | n + 1, s, i, h0, hn => by
    obtain ⟨x, hx, _, hd⟩ := idx_lt xs h0 (by omega)
    rw [iter_eq, h1 s i x h0 (by omega) hx, hd]
    simp only [foldE]
    cases hst : step s x i with
    | none => rfl
    | some u =>
      cases u with
      | inl s' => exact iter_range xs mk f step fin h1 h2 n s' (i + 1) (by omega) (by omega)
      | inr a => rfl

/-- The same, from the beginning. -/
theorem iter_range0 {α σ A X : Type} (xs : List α) (mk : σ → Int → X) (f : X → Option (X ⊕ A)) (step : σ → α → Int → Option (σ ⊕ A)) (fin : σ → Int → Option A)
    (h1 : ∀ s (i : Int) x, 0 ≤ i → i < xs.length → idx xs i = some x → f (mk s i) = (step s x i).map (Sum.map (fun s' => mk s' (i + 1)) id))
    (h2 : ∀ s, f (mk s xs.length) = (fin s xs.length).map .inr) (s : σ) : iter f (mk s 0) = foldE step fin xs s 0 :=
  iter_range xs mk f step fin h1 h2 xs.length s 0 (by omega) (by omega)

/-- A search: the first element at which something is found. -/
def findE {α A : Type} (g : α → Option A) (e : A) : List α → A
  | [] => e
  | x :: r => match g x with
    | some a => a
    | none => findE g e r
theorem iter_find {α A : Type} (xs : List α) (f : Int → Option (Int ⊕ A)) (g : α → Option A) (e : A) (hlen : (xs.length : Int) ≤ 4611686018427387904)
    (h1 : ∀ (i : Int) x, 0 ≤ i → i < xs.length → idx xs i = some x → f i = match g x with | some a => some (.inr a) | none => some (.inl (i + 1)))
    (h2 : f xs.length = some (.inr e)) : iter f 0 = some (findE g e xs) := by
  have h := iter_range0 xs (fun (_ : Unit) i => i) f (fun _ x _ => match g x with | some a => some (.inr a) | none => some (.inl ())) (fun _ _ => some e)
    (fun s i x h0 h3 h4 => by rw [h1 i x h0 h3 h4]; cases g x <;> rfl) (fun s => by rw [h2]; rfl) ()
  rw [h]
  clear h h1 h2 hlen
  suffices ∀ (xs : List α) (i : Int), foldE (fun (_ : Unit) x _ => match g x with | some a => some (.inr a) | none => some (.inl ())) (fun _ _ => some e) xs () i = some (findE g e xs) from this xs 0
  intro xs
  induction xs with
  | nil => intro i; rfl
  | cons x r ih =>
    intro i
    simp only [foldE, findE]
    cases g x with
    | none => exact ih (i + 1)
    | some a => rfl
theorem findE_bool {α : Type} (p : α → Bool) : ∀ (xs : List α), findE (fun x => if p x = true then none else some false) true xs = xs.all p
  | [] => rfl
  | x :: r => by
    simp only [findE, List.all_cons]
    cases hp : p x <;> simp [findE_bool p r]
end Go.Beacon

/- Plain facts of library functions, for lists of anything. No program in sight. -/
set_option linter.unusedVariables false
set_option linter.unusedSimpArgs false
namespace Go.Beacon
open Go Go.Eng

/-! slices.Equal -/
def gEqual_b1 {α : Type} [DecidableEq α] (xs ys : List α) (i : Int) : Option (Int ⊕ Bool) :=
  if i < (xs.length : Int) then
    (idx xs i).bind fun v3 =>
    (idx ys i).bind fun v4 =>
    if v3 ≠ v4 then
      Option.map .inr (some false)
    else
      some (.inl (w64 (i + (1 : Int))))
  else
    Option.map .inr (some true)
noncomputable def gEqual {α : Type} [DecidableEq α] (xs ys : List α) : Option Bool :=
  if (xs.length : Int) ≠ (ys.length : Int) then
    some false
  else
    iter (fun x : Int => gEqual_b1 xs ys x) 0
theorem gEqual_loop {α : Type} [DecidableEq α] (xs ys : List α) (hl : xs.length = ys.length) (hb : (xs.length : Int) ≤ 4611686018427387904) : ∀ (n : Nat) (i : Int), 0 ≤ i → i + n = xs.length →
    iter (fun x : Int => gEqual_b1 xs ys x) i = some (decide (xs.drop i.toNat = ys.drop i.toNat))
  | 0, i, h0, hn => by
    rw [iter_eq, gEqual_b1, if_neg (by omega), List.drop_of_length_le (by omega), List.drop_of_length_le (by omega)]; simp
  | n + 1, i, h0, hn => by
    obtain ⟨x, hx, _, hd⟩ := idx_lt xs h0 (by omega)
    obtain ⟨y, hy, _, hd'⟩ := idx_lt ys h0 (by omega)
    rw [iter_eq, gEqual_b1, if_pos (by omega), hx, hy, hd, hd']
    simp only [Option.bind_some]
    by_cases hxy : x = y
    · subst hxy
      rw [if_neg (by simp)]
      simp only [Option.bind_some, after_inl]
      rw [w64_in (by omega) (by omega)]
      have := gEqual_loop xs ys hl hb n (i + 1) (by omega) (by omega)
      rw [this]; simp
    · rw [if_pos hxy]; simp [hxy]
theorem gEqual_eq {α : Type} [DecidableEq α] (xs ys : List α) (hb : (xs.length : Int) ≤ 4611686018427387904) : gEqual xs ys = some (decide (xs = ys)) := by
  unfold gEqual
  by_cases h : xs.length = ys.length
  · rw [if_neg (by omega), gEqual_loop xs ys h hb xs.length 0 (by omega) (by omega)]; simp
  · rw [if_pos (by omega), decide_eq_false (fun e => h (by rw [e]))]

/-! slices.IndexFunc, slices.ContainsFunc -/
def gIndexFunc_b1 {α : Type} (xs : List α) (f : α → Option Bool) (i : Int) : Option (Int ⊕ Int) :=
  if i < (xs.length : Int) then
    (idx xs i).bind fun v3 =>
    (f v3).bind fun v4 =>
    if v4 = true then
      Option.map .inr (some i)
    else
      some (.inl (w64 (i + (1 : Int))))
  else
    Option.map .inr (some (-1 : Int))
noncomputable def gIndexFunc {α : Type} (xs : List α) (f : α → Option Bool) : Option Int := iter (fun x : Int => gIndexFunc_b1 xs f x) 0
noncomputable def gContainsFunc {α : Type} (xs : List α) (f : α → Option Bool) : Option Bool := (gIndexFunc xs f).bind fun v1 => some (decide ((0 : Int) ≤ v1))
/-- The place of the first element of a kind; -1 if there is none. -/
def findI {α : Type} (p : α → Bool) : List α → Int → Int
  | [], _ => -1
  | x :: r, i => if p x = true then i else findI p r (i + 1)
theorem findI_any {α : Type} (p : α → Bool) : ∀ (xs : List α) (i : Int), 0 ≤ i → (0 ≤ findI p xs i ↔ xs.any p = true)
  | [], i, h => by simp [findI]
  | x :: r, i, h => by
    have := findI_any p r (i + 1) (by omega)
    simp only [findI, List.any_cons, Bool.or_eq_true]
    split
    · rename_i hp; simp [hp, h]
    · rename_i hp
      have hp' : p x = false := by simpa using hp
      simp only [hp', Bool.false_eq_true, false_or]; exact this
theorem gIndexFunc_loop {α : Type} (xs : List α) (f : α → Option Bool) (p : α → Bool) (hf : ∀ x ∈ xs, f x = some (p x)) (hb : (xs.length : Int) ≤ 4611686018427387904) : ∀ (n : Nat) (i : Int), 0 ≤ i → i + n = xs.length →
    iter (fun x : Int => gIndexFunc_b1 xs f x) i = some (findI p (xs.drop i.toNat) i)
  | 0, i, h0, hn => by
    rw [iter_eq, gIndexFunc_b1, if_neg (by omega), List.drop_of_length_le (by omega)]; rfl
  | n + 1, i, h0, hn => by
    obtain ⟨x, hx, hm, hd⟩ := idx_lt xs h0 (by omega)
    rw [iter_eq, gIndexFunc_b1, if_pos (by omega), hx, hd]
    simp only [Option.bind_some, hf x hm, findI]
    split
    · rfl
    · simp only [Option.bind_some, after_inl]
      rw [w64_in (by omega) (by omega)]
      exact gIndexFunc_loop xs f p hf hb n (i + 1) (by omega) (by omega)
theorem gIndexFunc_eq {α : Type} (xs : List α) (f : α → Option Bool) (p : α → Bool) (hf : ∀ x ∈ xs, f x = some (p x)) (hb : (xs.length : Int) ≤ 4611686018427387904) : gIndexFunc xs f = some (findI p xs 0) := by
  unfold gIndexFunc
  rw [gIndexFunc_loop xs f p hf hb xs.length 0 (by omega) (by omega)]; simp
theorem gContainsFunc_eq {α : Type} (xs : List α) (f : α → Option Bool) (p : α → Bool) (hf : ∀ x ∈ xs, f x = some (p x)) (hb : (xs.length : Int) ≤ 4611686018427387904) : gContainsFunc xs f = some (xs.any p) := by
  unfold gContainsFunc
  rw [gIndexFunc_eq xs f p hf hb]
  simp only [Option.bind_some, Option.some.injEq]
  rw [Bool.eq_iff_iff, decide_eq_true_eq]
  exact findI_any p xs 0 (by omega)

/-! the first number that is not 0 -/
def gOr_b1 (xs : List Int) (i : Int) : Option (Int ⊕ Int) :=
  if i < (xs.length : Int) then
    (idx xs i).bind fun v3 =>
    if v3 ≠ (0 : Int) then
      Option.map .inr (some v3)
    else
      some (.inl (w64 (i + (1 : Int))))
  else
    Option.map .inr (some (0 : Int))
noncomputable def gOr (xs : List Int) : Option Int := iter (fun x : Int => gOr_b1 xs x) 0
def orL : List Int → Int
  | [] => 0
  | x :: r => if x ≠ 0 then x else orL r
theorem gOr_eq (xs : List Int) (hb : (xs.length : Int) ≤ 4611686018427387904) : gOr xs = some (orL xs) := by
  unfold gOr
  rw [iter_find xs (fun x : Int => gOr_b1 xs x) (fun x => if x ≠ 0 then some x else none) 0 hb]
  · congr 1
    clear hb
    induction xs with
    | nil => rfl
    | cons x r ih =>
      simp only [findE, orL]
      by_cases h : x = 0
      · subst h; simpa using ih
      · simp [h]
  · intro i x h0 h1 hx
    unfold gOr_b1
    rw [if_pos h1, hx]
    simp only [Option.bind_some]
    by_cases h : x = 0
    · rw [w64_in (by omega) (by omega)]; simp [h]
    · simp [h]
  · unfold gOr_b1; rw [if_neg (by omega)]; rfl

theorem cmpB_self : ∀ l : List UInt8, Lib.compareBytes l l = 0
  | [] => rfl
  | a :: l => by simp only [Lib.compareBytes]; rw [if_neg (by simp), if_neg (by simp)]; exact cmpB_self l
theorem u8_lt_irrefl (a : UInt8) : ¬ a < a := by simp
theorem u8_tri (a b : UInt8) : a < b ∨ a = b ∨ b < a := by
  rcases Nat.lt_trichotomy a.toNat b.toNat with h | h | h
  · exact .inl h
  · exact .inr (.inl (UInt8.toNat_inj.1 h))
  · exact .inr (.inr h)
theorem u8_asymm {a b : UInt8} (h : a < b) : ¬ b < a := by
  rw [UInt8.lt_iff_toNat_lt] at *; omega
theorem cmpB_neg : ∀ a b : List UInt8, Lib.compareBytes a b = - Lib.compareBytes b a
  | [], [] => rfl
  | [], _ :: _ => rfl
  | _ :: _, [] => rfl
  | a :: la, b :: lb => by
    simp only [Lib.compareBytes]
    rcases u8_tri a b with h | h | h
    · rw [if_pos h, if_neg (u8_asymm h), if_pos h]
    · subst h
      rw [if_neg (by simp), if_neg (by simp), if_neg (by simp), if_neg (by simp)]; exact cmpB_neg la lb
    · rw [if_neg (u8_asymm h), if_pos h, if_pos h]; rfl
theorem cmpB_vals : ∀ a b : List UInt8, Lib.compareBytes a b = -1 ∨ Lib.compareBytes a b = 0 ∨ Lib.compareBytes a b = 1
  | [], [] => by simp [Lib.compareBytes]
  | [], _ :: _ => by simp [Lib.compareBytes]
  | _ :: _, [] => by simp [Lib.compareBytes]
  | a :: la, b :: lb => by
    simp only [Lib.compareBytes]
    split
    · simp
    · split
      · simp
      · exact cmpB_vals la lb
theorem cmpB_zero : ∀ {a b : List UInt8}, Lib.compareBytes a b = 0 → a = b
  | [], [], _ => rfl
  | [], _ :: _, h => by simp [Lib.compareBytes] at h
  | _ :: _, [], h => by simp [Lib.compareBytes] at h
  | a :: la, b :: lb, h => by
    simp only [Lib.compareBytes] at h
    split at h
    · simp at h
    · split at h
      · simp at h
      · rename_i h1 h2
        rcases u8_tri a b with h3 | h3 | h3
        · exact absurd h3 h1
        · rw [h3, cmpB_zero h]
        · exact absurd h3 h2
theorem less_iff : ∀ a b : List UInt8, Op.bytesLess a b = decide (Lib.compareBytes a b < 0)
  | [], [] => by simp [Op.bytesLess, Lib.compareBytes]
  | [], _ :: _ => by simp [Op.bytesLess, Lib.compareBytes]
  | _ :: _, [] => by simp [Op.bytesLess, Lib.compareBytes]
  | a :: la, b :: lb => by
    simp only [Op.bytesLess, Lib.compareBytes]
    rcases u8_tri a b with h | h | h
    · simp [h]
    · subst h; simp [less_iff la lb]
    · have h1 := u8_asymm h
      have h2 : (a == b) = false := by
        rw [beq_eq_false_iff_ne]; intro e; subst e; exact u8_lt_irrefl _ h
      simp [h, h1, h2]
theorem beq_cmp (a b : List UInt8) : (a == b) = decide (Lib.compareBytes a b = 0) := by
  rw [Bool.eq_iff_iff]
  simp only [beq_iff_eq, decide_eq_true_eq]
  exact ⟨fun h => by rw [h]; exact cmpB_self b, cmpB_zero⟩
/-! bytes -/
theorem indexByte_nonneg : ∀ (l : List UInt8) (c : UInt8), (Lib.indexByte l c < 0) ↔ c ∉ l
  | [], c => by simp [Lib.indexByte]
  | b :: l, c => by
    have ih := indexByte_nonneg l c
    have hge := Lib.indexByte_ge l c
    simp only [Lib.indexByte, List.mem_cons, not_or]
    by_cases hb : b = c
    · subst hb; simp
    · rw [if_neg (by simpa using hb)]
      by_cases h1 : Lib.indexByte l c = -1
      · rw [h1] at ih
        simp only [h1, beq_self_eq_true, if_true]
        exact ⟨fun _ => ⟨fun e => hb e.symm, ih.1 (by omega)⟩, fun _ => by omega⟩
      · rw [if_neg (by simpa using h1)]
        exact ⟨fun h => by omega, fun h => absurd (ih.2 h.2) (by omega)⟩
theorem toU8 (c : UInt8) : ((c.toNat : Int)).toNat.toUInt8 = c := by simp
end Go.Beacon

/- Plain facts of sorting, compacting, deleting and joining lists of anything. No program in sight. -/
set_option linter.unusedVariables false
set_option linter.unusedSimpArgs false
namespace Go.Beacon
open Go Go.Eng

/-- An order: less, as a comparison tells. -/
structure Ord3 {α : Type} (cf : α → α → Int) (xs : List α) : Prop where
  irr : ∀ x ∈ xs, ¬ cf x x < 0
  tr : ∀ x ∈ xs, ∀ y ∈ xs, ∀ z ∈ xs, cf x y < 0 → cf y z < 0 → cf x z < 0
  ntr : ∀ x ∈ xs, ∀ y ∈ xs, ∀ z ∈ xs, ¬ cf x y < 0 → ¬ cf y z < 0 → ¬ cf x z < 0
theorem Ord3.mono {α : Type} {cf : α → α → Int} {xs ys : List α} (h : Ord3 cf xs) (hs : ∀ y ∈ ys, y ∈ xs) : Ord3 cf ys :=
  ⟨fun x hx => h.irr x (hs x hx), fun x hx y hy z hz => h.tr x (hs x hx) y (hs y hy) z (hs z hz), fun x hx y hy z hz => h.ntr x (hs x hx) y (hs y hy) z (hs z hz)⟩

end Go.Beacon

/- Plain facts of compacting, deleting and joining lists of anything. No program in sight. -/
set_option linter.unusedVariables false
set_option linter.unusedSimpArgs false
namespace Go.Beacon
open Go Go.Eng

/-- Without what is like the one ahead of it. -/
def ddA {α : Type} (e : α → α → Bool) : α → List α → List α
  | _, [] => []
  | p, y :: r => if e y p = true then ddA e y r else y :: ddA e y r
def dd {α : Type} (e : α → α → Bool) : List α → List α
  | [] => []
  | x :: r => x :: ddA e x r
end Go.Beacon

/- Plain merging: orders, sorted lists without twins. For any type. No program in sight. -/
set_option linter.unusedVariables false
set_option linter.unusedSimpArgs false
namespace Go.Beacon
open Go Go.Eng

/-- A comparison in three ways. -/
structure Cmp3 {α : Type} (c : α → α → Int) : Prop where
  neg : ∀ a b, c a b = - c b a
  tr : ∀ {a b d}, c a b < 0 → c b d < 0 → c a d < 0
  cg : ∀ {a b d}, c a b = 0 → c b d < 0 → c a d < 0
theorem Cmp3.zero {α : Type} {c : α → α → Int} (h : Cmp3 c) (a : α) : c a a = 0 := by have := h.neg a a; omega
theorem Cmp3.on {α β : Type} {c : α → α → Int} (h : Cmp3 c) (f : β → α) : Cmp3 (fun a b => c (f a) (f b)) :=
  ⟨fun a b => h.neg _ _, fun h1 h2 => h.tr h1 h2, fun h1 h2 => h.cg h1 h2⟩
theorem cmpB_tr : ∀ {a b c : List UInt8}, Lib.compareBytes a b < 0 → Lib.compareBytes b c < 0 → Lib.compareBytes a c < 0
  | [], [], c, h1, h2 => by simp [Lib.compareBytes] at h1
  | [], _ :: _, [], h1, h2 => by simp [Lib.compareBytes] at h2
  | [], _ :: _, _ :: _, h1, h2 => by simp [Lib.compareBytes]
  | _ :: _, [], c, h1, h2 => by simp [Lib.compareBytes] at h1
  | _ :: _, _ :: _, [], h1, h2 => by simp [Lib.compareBytes] at h2
  | a :: la, b :: lb, c :: lc, h1, h2 => by
    simp only [Lib.compareBytes] at h1 h2 ⊢
    rcases u8_tri a b with h | h | h
    · rcases u8_tri b c with k | k | k
      · rw [if_pos (UInt8.lt_trans h k)]; omega
      · subst k; rw [if_pos h]; omega
      · rw [if_neg (u8_asymm k), if_pos k] at h2; omega
    · subst h
      rcases u8_tri a c with k | k | k
      · rw [if_pos k]; omega
      · subst k
        rw [if_neg (by simp), if_neg (by simp)] at h1 h2 ⊢
        exact cmpB_tr h1 h2
      · rw [if_neg (u8_asymm k), if_pos k] at h2; omega
    · rw [if_neg (u8_asymm h), if_pos h] at h1; omega
theorem cmpB_3 : Cmp3 Lib.compareBytes := ⟨cmpB_neg, cmpB_tr, fun h1 h2 => by rw [cmpB_zero h1]; exact h2⟩
end Go.Beacon

/- Plain maps (sorted lists of pairs) by look-ups; loops over maps in any order. No program in sight. -/
set_option linter.unusedVariables false
set_option linter.unusedSimpArgs false
set_option linter.unusedSectionVars false
namespace Go.Beacon
open Go Go.Eng

/-- A strict order of keys, as it must be. -/
class LKey (K : Type) [KLt K] : Prop where
  irr : ∀ a : K, KLt.lt a a = false
  tr : ∀ {a b c : K}, KLt.lt a b = true → KLt.lt b c = true → KLt.lt a c = true
  tri : ∀ a b : K, KLt.lt a b = true ∨ a = b ∨ KLt.lt b a = true
instance : LKey Int where
  irr a := by show decide (a < a) = false; simp
  tr {a b c} h1 h2 := by
    have h1 : decide (a < b) = true := h1
    have h2 : decide (b < c) = true := h2
    show decide (a < c) = true
    simp only [decide_eq_true_eq] at *; omega
  tri a b := by
    show decide (a < b) = true ∨ a = b ∨ decide (b < a) = true
    simp only [decide_eq_true_eq]; omega
instance : LKey Bool where
  irr a := by cases a <;> rfl
  tr {a b c} h1 h2 := by revert h1 h2; cases a <;> cases b <;> cases c <;> decide
  tri a b := by cases a <;> cases b <;> decide
instance : LKey (List UInt8) where
  irr a := by
    show Op.bytesLess a a = false
    rw [less_iff, cmpB_self]; rfl
  tr {a b c} h1 h2 := by
    have h1 : Op.bytesLess a b = true := h1
    have h2 : Op.bytesLess b c = true := h2
    show Op.bytesLess a c = true
    rw [less_iff, decide_eq_true_eq] at *
    exact cmpB_3.tr h1 h2
  tri a b := by
    show Op.bytesLess a b = true ∨ a = b ∨ Op.bytesLess b a = true
    rw [less_iff, less_iff, decide_eq_true_eq, decide_eq_true_eq]
    rcases Int.lt_trichotomy (Lib.compareBytes a b) 0 with h | h | h
    · exact .inl h
    · exact .inr (.inl (cmpB_zero h))
    · exact .inr (.inr (by have := cmpB_3.neg a b; omega))
section
variable {K V : Type} [DecidableEq K]
theorem mget_nil (k : K) : mget? ([] : List (K × V)) k = none := rfl
theorem mget_cons (e : K × V) (m : List (K × V)) (k : K) : mget? (e :: m) k = if e.1 = k then some e.2 else mget? m k := rfl
theorem mget_mdel (m : List (K × V)) (k k' : K) : mget? (mdel m k) k' = if k = k' then none else mget? m k' := by
  induction m with
  | nil => simp [mdel, mget?]
  | cons e r ih =>
    unfold mdel at ih ⊢
    rw [List.filter_cons]
    by_cases h : e.1 = k
    · rw [if_neg (by simp [h]), ih, mget_cons]
      by_cases h2 : k = k'
      · rw [if_pos h2, if_pos h2]
      · rw [if_neg h2, if_neg h2, if_neg (by rw [h]; exact h2)]
    · rw [if_pos (by simp [h]), mget_cons, ih, mget_cons]
      by_cases h2 : k = k'
      · rw [if_pos h2, if_pos h2, if_neg (by rw [← h2]; exact h)]
      · rw [if_neg h2, if_neg h2]
variable [KLt K]
theorem mget_mins (k : K) (v : V) (k' : K) : ∀ (m : List (K × V)), mget? m k = none → mget? (mins k v m) k' = if k = k' then some v else mget? m k'
  | [], _ => by simp [mins, mget?]
  | e :: r, h => by
    rw [mget_cons] at h
    have h1 : e.1 ≠ k := fun he => by rw [if_pos he] at h; cases h
    rw [if_neg h1] at h
    unfold mins
    split
    · rw [mget_cons, mget_mins k v k' r h, mget_cons]
      by_cases h2 : k = k'
      · rw [if_pos h2, if_pos h2, if_neg (by rw [← h2]; exact h1)]
      · rw [if_neg h2, if_neg h2]
    · rw [mget_cons]
theorem mget_mset (m : List (K × V)) (k : K) (v : V) (k' : K) : mget? (mset m k v) k' = if k = k' then some v else mget? m k' := by
  unfold mset
  rw [mget_mins k v k' _ (by rw [mget_mdel, if_pos rfl]), mget_mdel]
  by_cases h : k = k'
  · rw [if_pos h, if_pos h]
  · rw [if_neg h, if_neg h, if_neg h]
/-- Sorted by keys. -/
def SM (m : List (K × V)) : Prop := m.Pairwise (fun a b => KLt.lt a.1 b.1 = true)
theorem SM.nil : SM ([] : List (K × V)) := List.Pairwise.nil
theorem SM.del {m : List (K × V)} (h : SM m) (k : K) : SM (mdel m k) := List.Pairwise.filter _ h
variable [LKey K]
theorem SM.ne {m : List (K × V)} (h : SM m) : m.Pairwise (fun a b => a.1 ≠ b.1) :=
  List.Pairwise.imp (fun {a b} h e => by rw [e, LKey.irr] at h; cases h) h
theorem SM.nodup {m : List (K × V)} (h : SM m) : (m.map Prod.fst).Nodup := by
  unfold List.Nodup
  rw [List.pairwise_map]
  exact SM.ne h
theorem mins_SM (k : K) (v : V) : ∀ {m : List (K × V)}, SM m → mget? m k = none → SM (mins k v m)
  | [], _, _ => by unfold mins SM; simp
  | e :: r, h, hn => by
    have h' := List.pairwise_cons.1 h
    rw [mget_cons] at hn
    have h1 : e.1 ≠ k := fun he => by rw [if_pos he] at hn; cases hn
    rw [if_neg h1] at hn
    unfold mins
    split
    · rename_i hlt
      refine List.pairwise_cons.2 ⟨fun z hz => ?_, mins_SM k v h'.2 hn⟩
      rcases List.mem_cons.1 ((mins_perm k v r).mem_iff.1 hz) with rfl | hz
      · exact hlt
      · exact h'.1 z hz
    · rename_i hlt
      have hke : KLt.lt k e.1 = true := by
        rcases LKey.tri k e.1 with h | h | h
        · exact h
        · exact absurd h.symm h1
        · exact absurd h hlt
      refine List.pairwise_cons.2 ⟨fun z hz => ?_, h⟩
      rcases List.mem_cons.1 hz with rfl | hz
      · exact hke
      · exact LKey.tr hke (h'.1 z hz)
theorem SM.set {m : List (K × V)} (h : SM m) (k : K) (v : V) : SM (mset m k v) :=
  mins_SM k v (h.del k) (by rw [mget_mdel, if_pos rfl])
theorem mins_len (k : K) (v : V) (m : List (K × V)) : (mins k v m).length = m.length + 1 := by
  have := (mins_perm k v m).length_eq; simpa using this
theorem mset_new_len {m : List (K × V)} {k : K} {v : V} (hk : mget? m k = none) : (mset m k v).length = m.length + 1 := by
  unfold mset; rw [mins_len, mdel_none hk]
end
/-! loops over all orders -/
section
variable {E S A : Type}
end
end Go.Beacon

/- Lists in the order of their names, as maps. No program in sight. -/
set_option linter.unusedVariables false
set_option linter.unusedSimpArgs false
namespace Go.Beacon
open Go Go.Eng

section
variable {α : Type} (id : α → Str)
def SId (L : List α) : Prop := L.Pairwise (fun a b => Lib.compareBytes (id a) (id b) < 0)
theorem SId.ne {L : List α} (h : SId id L) : L.Pairwise (fun a b => id a ≠ id b) :=
  List.Pairwise.imp (fun {a b} h e => by rw [e, cmpB_self] at h; omega) h
end
end Go.Beacon

