/- Plain facts on what the functions compute. No program in sight. -/
import Derived.Test.YtnopmjdjgangdaaGreatDoorCore
/- Plain facts: integers that fit, lists by index, loops over a list as recursion. No program in sight. -/
set_option linter.unusedVariables false
namespace Go.Beacon
open Go Go.Eng

theorem w64_in {x : Int} (h1 : -9223372036854775808 ≤ x) (h2 : x ≤ 9223372036854775807) : w64 x = x := wrap_fits ⟨h1, h2⟩
theorem rem_pos {a b : Int} (h : 0 < b) (h0 : 0 ≤ a) : rem a b = some (a % b) := by
  unfold rem
  rw [if_neg (by omega), Int.tmod_eq_emod_of_nonneg h0]
theorem rem_ne {a b : Int} (h : b ≠ 0) : rem a b = some (a.tmod b) := by unfold rem; rw [if_neg h]
theorem quo_ne {a b : Int} (h : b ≠ 0) : quo a b = some (w64 (a.tdiv b)) := by unfold quo; rw [if_neg h]
theorem idx_lt {α : Type} (xs : List α) {i : Int} (h0 : 0 ≤ i) (h1 : i < xs.length) : ∃ x, idx xs i = some x ∧ x ∈ xs ∧ xs.drop i.toNat = x :: xs.drop (i + 1).toNat := by
  have h : i.toNat < xs.length := by omega
  refine ⟨xs[i.toNat], by unfold idx; rw [if_pos h0]; simp [h], List.getElem_mem h, ?_⟩
  rw [show (i + 1).toNat = i.toNat + 1 by omega]
  exact List.drop_eq_getElem_cons h
theorem idx_mem {α : Type} {xs : List α} {i : Int} {x : α} (h : idx xs i = some x) : x ∈ xs := List.mem_of_getElem? (idx_some h).2.2
theorem app_le {α : Type} {xs ys : List α} (h : xs.length + ys.length ≤ 1000000000) : app xs ys = some (xs ++ ys) := by unfold app; rw [if_pos h]
theorem slc_in {α : Type} {xs : List α} {l h : Int} (h0 : 0 ≤ l) (h1 : l ≤ h) (h2 : h ≤ xs.length) : slc xs l h = some ((xs.drop l.toNat).take (h.toNat - l.toNat)) := by
  unfold slc; rw [if_pos ⟨h0, h1, h2⟩]

/-- A loop over a list, with an early end. -/
def foldE {α σ A : Type} (step : σ → α → Int → Option (σ ⊕ A)) (fin : σ → Int → Option A) : List α → σ → Int → Option A
  | [], s, i => fin s i
  | x :: r, s, i => match step s x i with
    | none => none
    | some (.inl s') => foldE step fin r s' (i + 1)
    | some (.inr a) => some a

theorem iter_range {α σ A X : Type} (xs : List α) (mk : σ → Int → X) (f : X → Option (X ⊕ A)) (step : σ → α → Int → Option (σ ⊕ A)) (fin : σ → Int → Option A)
    (h1 : ∀ s (i : Int) x, 0 ≤ i → i < xs.length → idx xs i = some x → f (mk s i) = (step s x i).map (Sum.map (fun s' => mk s' (i + 1)) id))
    (h2 : ∀ s, f (mk s xs.length) = (fin s xs.length).map .inr) : ∀ (n : Nat) (s : σ) (i : Int), 0 ≤ i → i + n = xs.length → iter f (mk s i) = foldE step fin (xs.drop i.toNat) s i
  | 0, s, i, h0, hn => by
    have hi : i = xs.length := by omega
    subst hi
    rw [iter_eq, h2, map_inr_after]
    simp [foldE]
  | n + 1, s, i, h0, hn => by
    obtain ⟨x, hx, _, hd⟩ := idx_lt xs h0 (by omega)
    rw [iter_eq, h1 s i x h0 (by omega) hx, hd]
    simp only [foldE]
    cases hst : step s x i with
    | none => rfl
    | some u =>
      cases u with
      | inl s' => exact iter_range xs mk f step fin h1 h2 n s' (i + 1) (by omega) (by omega)
      | inr a => rfl

/-- The same, from the beginning. -/
theorem iter_range0 {α σ A X : Type} (xs : List α) (mk : σ → Int → X) (f : X → Option (X ⊕ A)) (step : σ → α → Int → Option (σ ⊕ A)) (fin : σ → Int → Option A)
    (h1 : ∀ s (i : Int) x, 0 ≤ i → i < xs.length → idx xs i = some x → f (mk s i) = (step s x i).map (Sum.map (fun s' => mk s' (i + 1)) id))
    (h2 : ∀ s, f (mk s xs.length) = (fin s xs.length).map .inr) (s : σ) : iter f (mk s 0) = foldE step fin xs s 0 :=
  iter_range xs mk f step fin h1 h2 xs.length s 0 (by omega) (by omega)

/-- A search: the first element at which something is found. -/
def findE {α A : Type} (g : α → Option A) (e : A) : List α → A
  | [] => e
  | x :: r => match g x with
    | some a => a
    | none => findE g e r
theorem iter_find {α A : Type} (xs : List α) (f : Int → Option (Int ⊕ A)) (g : α → Option A) (e : A) (hlen : (xs.length : Int) ≤ 4611686018427387904)
    (h1 : ∀ (i : Int) x, 0 ≤ i → i < xs.length → idx xs i = some x → f i = match g x with | some a => some (.inr a) | none => some (.inl (i + 1)))
    (h2 : f xs.length = some (.inr e)) : iter f 0 = some (findE g e xs) := by
  have h := iter_range0 xs (fun (_ : Unit) i => i) f (fun _ x _ => match g x with | some a => some (.inr a) | none => some (.inl ())) (fun _ _ => some e)
    (fun s i x h0 h3 h4 => by rw [h1 i x h0 h3 h4]; cases g x <;> rfl) (fun s => by rw [h2]; rfl) ()
  rw [h]
  clear h h1 h2 hlen
  suffices ∀ (xs : List α) (i : Int), foldE (fun (_ : Unit) x _ => match g x with | some a => some (.inr a) | none => some (.inl ())) (fun _ _ => some e) xs () i = some (findE g e xs) from this xs 0
  intro xs
  induction xs with
  | nil => intro i; rfl
  | cons x r ih =>
    intro i
    simp only [foldE, findE]
    cases g x with
    | none => exact ih (i + 1)
    | some a => rfl
theorem findE_bool {α : Type} (p : α → Bool) : ∀ (xs : List α), findE (fun x => if p x = true then none else some false) true xs = xs.all p
  | [] => rfl
  | x :: r => by
    simp only [findE, List.all_cons]
    cases hp : p x <;> simp [findE_bool p r]
end Go.Beacon

/- Plain facts of library functions, for lists of anything. No program in sight. -/
set_option linter.unusedVariables false
set_option linter.unusedSimpArgs false
namespace Go.Beacon
open Go Go.Eng

/-! slices.Equal -/
def gEqual_b1 {α : Type} [DecidableEq α] (xs ys : List α) (i : Int) : Option (Int ⊕ Bool) :=
  if i < (xs.length : Int) then
    (idx xs i).bind fun v3 =>
    (idx ys i).bind fun v4 =>
    if v3 ≠ v4 then
      Option.map .inr (some false)
    else
      some (.inl (w64 (i + (1 : Int))))
  else
    Option.map .inr (some true)
noncomputable def gEqual {α : Type} [DecidableEq α] (xs ys : List α) : Option Bool :=
  if (xs.length : Int) ≠ (ys.length : Int) then
    some false
  else
    iter (fun x : Int => gEqual_b1 xs ys x) 0
theorem gEqual_loop {α : Type} [DecidableEq α] (xs ys : List α) (hl : xs.length = ys.length) (hb : (xs.length : Int) ≤ 4611686018427387904) : ∀ (n : Nat) (i : Int), 0 ≤ i → i + n = xs.length →
    iter (fun x : Int => gEqual_b1 xs ys x) i = some (decide (xs.drop i.toNat = ys.drop i.toNat))
  | 0, i, h0, hn => by
    rw [iter_eq, gEqual_b1, if_neg (by omega), List.drop_of_length_le (by omega), List.drop_of_length_le (by omega)]; simp
  | n + 1, i, h0, hn => by
    obtain ⟨x, hx, _, hd⟩ := idx_lt xs h0 (by omega)
    obtain ⟨y, hy, _, hd'⟩ := idx_lt ys h0 (by omega)
    rw [iter_eq, gEqual_b1, if_pos (by omega), hx, hy, hd, hd']
    simp only [Option.bind_some]
    by_cases hxy : x = y
    · subst hxy
      rw [if_neg (by simp)]
      simp only [Option.bind_some, after_inl]
      rw [w64_in (by omega) (by omega)]
      have := gEqual_loop xs ys hl hb n (i + 1) (by omega) (by omega)
      rw [this]; simp
    · rw [if_pos hxy]; simp [hxy]
theorem gEqual_eq {α : Type} [DecidableEq α] (xs ys : List α) (hb : (xs.length : Int) ≤ 4611686018427387904) : gEqual xs ys = some (decide (xs = ys)) := by
  unfold gEqual
  by_cases h : xs.length = ys.length
  · rw [if_neg (by omega), gEqual_loop xs ys h hb xs.length 0 (by omega) (by omega)]; simp
  · rw [if_pos (by omega), decide_eq_false (fun e => h (by rw [e]))]

/-! slices.IndexFunc, slices.ContainsFunc -/
def gIndexFunc_b1 {α : Type} (xs : List α) (f : α → Option Bool) (i : Int) : Option (Int ⊕ Int) :=
  if i < (xs.length : Int) then
    (idx xs i).bind fun v3 =>
    (f v3).bind fun v4 =>
    if v4 = true then
      Option.map .inr (some i)
    else
      some (.inl (w64 (i + (1 : Int))))
  else
    Option.map .inr (some (-1 : Int))
noncomputable def gIndexFunc {α : Type} (xs : List α) (f : α → Option Bool) : Option Int := iter (fun x : Int => gIndexFunc_b1 xs f x) 0
noncomputable def gContainsFunc {α : Type} (xs : List α) (f : α → Option Bool) : Option Bool := (gIndexFunc xs f).bind fun v1 => some (decide ((0 : Int) ≤ v1))
/-- The place of the first element of a kind; -1 if there is none. -/
def findI {α : Type} (p : α → Bool) : List α → Int → Int
  | [], _ => -1
  | x :: r, i => if p x = true then i else findI p r (i + 1)
theorem findI_any {α : Type} (p : α → Bool) : ∀ (xs : List α) (i : Int), 0 ≤ i → (0 ≤ findI p xs i ↔ xs.any p = true)
  | [], i, h => by simp [findI]
  | x :: r, i, h => by
    have := findI_any p r (i + 1) (by omega)
    simp only [findI, List.any_cons, Bool.or_eq_true]
    split
    · rename_i hp; simp [hp, h]
    · rename_i hp
      have hp' : p x = false := by simpa using hp
      simp only [hp', Bool.false_eq_true, false_or]; exact this
theorem gIndexFunc_loop {α : Type} (xs : List α) (f : α → Option Bool) (p : α → Bool) (hf : ∀ x ∈ xs, f x = some (p x)) (hb : (xs.length : Int) ≤ 4611686018427387904) : ∀ (n : Nat) (i : Int), 0 ≤ i → i + n = xs.length →
    iter (fun x : Int => gIndexFunc_b1 xs f x) i = some (findI p (xs.drop i.toNat) i)
  | 0, i, h0, hn => by
    rw [iter_eq, gIndexFunc_b1, if_neg (by omega), List.drop_of_length_le (by omega)]; rfl
  | n + 1, i, h0, hn => by
    obtain ⟨x, hx, hm, hd⟩ := idx_lt xs h0 (by omega)
    rw [iter_eq, gIndexFunc_b1, if_pos (by omega), hx, hd]
    simp only [Option.bind_some, hf x hm, findI]
    split
    · rfl
    · simp only [Option.bind_some, after_inl]
      rw [w64_in (by omega) (by omega)]
      exact gIndexFunc_loop xs f p hf hb n (i + 1) (by omega) (by omega)
theorem gIndexFunc_eq {α : Type} (xs : List α) (f : α → Option Bool) (p : α → Bool) (hf : ∀ x ∈ xs, f x = some (p x)) (hb : (xs.length : Int) ≤ 4611686018427387904) : gIndexFunc xs f = some (findI p xs 0) := by
  unfold gIndexFunc
  rw [gIndexFunc_loop xs f p hf hb xs.length 0 (by omega) (by omega)]; simp
theorem gContainsFunc_eq {α : Type} (xs : List α) (f : α → Option Bool) (p : α → Bool) (hf : ∀ x ∈ xs, f x = some (p x)) (hb : (xs.length : Int) ≤ 4611686018427387904) : gContainsFunc xs f = some (xs.any p) := by
  unfold gContainsFunc
  rw [gIndexFunc_eq xs f p hf hb]
  simp only [Option.bind_some, Option.some.injEq]
  rw [Bool.eq_iff_iff, decide_eq_true_eq]
  exact findI_any p xs 0 (by omega)

/-! the first number that is not 0 -/
def gOr_b1 (xs : List Int) (i : Int) : Option (Int ⊕ Int) :=
  if i < (xs.length : Int) then
    (idx xs i).bind fun v3 =>
    if v3 ≠ (0 : Int) then
      Option.map .inr (some v3)
    else
      some (.inl (w64 (i + (1 : Int))))
  else
    Option.map .inr (some (0 : Int))
noncomputable def gOr (xs : List Int) : Option Int := iter (fun x : Int => gOr_b1 xs x) 0
def orL : List Int → Int
  | [] => 0
  | x :: r => if x ≠ 0 then x else orL r
theorem gOr_eq (xs : List Int) (hb : (xs.length : Int) ≤ 4611686018427387904) : gOr xs = some (orL xs) := by
  unfold gOr
  rw [iter_find xs (fun x : Int => gOr_b1 xs x) (fun x => if x ≠ 0 then some x else none) 0 hb]
  · congr 1
    clear hb
    induction xs with
    | nil => rfl
    | cons x r ih =>
      simp only [findE, orL]
      by_cases h : x = 0
      · subst h; simpa using ih
      · simp [h]
  · intro i x h0 h1 hx
    unfold gOr_b1
    rw [if_pos h1, hx]
    simp only [Option.bind_some]
    by_cases h : x = 0
    · rw [w64_in (by omega) (by omega)]; simp [h]
    · simp [h]
  · unfold gOr_b1; rw [if_neg (by omega)]; rfl

/-! comparing -/
def cmpI (a b : Int) : Int := if a < b then -1 else if b < a then 1 else 0
theorem cmpB_self : ∀ l : List UInt8, Lib.compareBytes l l = 0
  | [] => rfl
  | a :: l => by simp only [Lib.compareBytes]; rw [if_neg (by simp), if_neg (by simp)]; exact cmpB_self l
theorem u8_lt_irrefl (a : UInt8) : ¬ a < a := by simp
theorem u8_tri (a b : UInt8) : a < b ∨ a = b ∨ b < a := by
  rcases Nat.lt_trichotomy a.toNat b.toNat with h | h | h
  · exact .inl h
  · exact .inr (.inl (UInt8.toNat_inj.1 h))
  · exact .inr (.inr h)
theorem u8_asymm {a b : UInt8} (h : a < b) : ¬ b < a := by
  rw [UInt8.lt_iff_toNat_lt] at *; omega
theorem cmpB_neg : ∀ a b : List UInt8, Lib.compareBytes a b = - Lib.compareBytes b a
  | [], [] => rfl
  | [], _ :: _ => rfl
  | _ :: _, [] => rfl
  | a :: la, b :: lb => by
    simp only [Lib.compareBytes]
    rcases u8_tri a b with h | h | h
    · rw [if_pos h, if_neg (u8_asymm h), if_pos h]
    · subst h
      rw [if_neg (by simp), if_neg (by simp), if_neg (by simp), if_neg (by simp)]; exact cmpB_neg la lb
    · rw [if_neg (u8_asymm h), if_pos h, if_pos h]; rfl
theorem cmpB_vals : ∀ a b : List UInt8, Lib.compareBytes a b = -1 ∨ Lib.compareBytes a b = 0 ∨ Lib.compareBytes a b = 1
  | [], [] => by simp [Lib.compareBytes]
  | [], _ :: _ => by simp [Lib.compareBytes]
  | _ :: _, [] => by simp [Lib.compareBytes]
  | a :: la, b :: lb => by
    simp only [Lib.compareBytes]
    split
    · simp
    · split
      · simp
      · exact cmpB_vals la lb
theorem cmpB_zero : ∀ {a b : List UInt8}, Lib.compareBytes a b = 0 → a = b
  | [], [], _ => rfl
  | [], _ :: _, h => by simp [Lib.compareBytes] at h
  | _ :: _, [], h => by simp [Lib.compareBytes] at h
  | a :: la, b :: lb, h => by
    simp only [Lib.compareBytes] at h
    split at h
    · simp at h
    · split at h
      · simp at h
      · rename_i h1 h2
        rcases u8_tri a b with h3 | h3 | h3
        · exact absurd h3 h1
        · rw [h3, cmpB_zero h]
        · exact absurd h3 h2
theorem less_iff : ∀ a b : List UInt8, Op.bytesLess a b = decide (Lib.compareBytes a b < 0)
  | [], [] => by simp [Op.bytesLess, Lib.compareBytes]
  | [], _ :: _ => by simp [Op.bytesLess, Lib.compareBytes]
  | _ :: _, [] => by simp [Op.bytesLess, Lib.compareBytes]
  | a :: la, b :: lb => by
    simp only [Op.bytesLess, Lib.compareBytes]
    rcases u8_tri a b with h | h | h
    · simp [h]
    · subst h; simp [less_iff la lb]
    · have h1 := u8_asymm h
      have h2 : (a == b) = false := by
        rw [beq_eq_false_iff_ne]; intro e; subst e; exact u8_lt_irrefl _ h
      simp [h, h1, h2]
theorem beq_cmp (a b : List UInt8) : (a == b) = decide (Lib.compareBytes a b = 0) := by
  rw [Bool.eq_iff_iff]
  simp only [beq_iff_eq, decide_eq_true_eq]
  exact ⟨fun h => by rw [h]; exact cmpB_self b, cmpB_zero⟩
/-! bytes -/
theorem indexByte_nonneg : ∀ (l : List UInt8) (c : UInt8), (Lib.indexByte l c < 0) ↔ c ∉ l
  | [], c => by simp [Lib.indexByte]
  | b :: l, c => by
    have ih := indexByte_nonneg l c
    have hge := Lib.indexByte_ge l c
    simp only [Lib.indexByte, List.mem_cons, not_or]
    by_cases hb : b = c
    · subst hb; simp
    · rw [if_neg (by simpa using hb)]
      by_cases h1 : Lib.indexByte l c = -1
      · rw [h1] at ih
        simp only [h1, beq_self_eq_true, if_true]
        exact ⟨fun _ => ⟨fun e => hb e.symm, ih.1 (by omega)⟩, fun _ => by omega⟩
      · rw [if_neg (by simpa using h1)]
        exact ⟨fun h => by omega, fun h => absurd (ih.2 h.2) (by omega)⟩
theorem toU8 (c : UInt8) : ((c.toNat : Int)).toNat.toUInt8 = c := by simp
end Go.Beacon

/- Plain facts of sorting, compacting, deleting and joining lists of anything. No program in sight. -/
set_option linter.unusedVariables false
set_option linter.unusedSimpArgs false
namespace Go.Beacon
open Go Go.Eng

/-- An order: less, as a comparison tells. -/
structure Ord3 {α : Type} (cf : α → α → Int) (xs : List α) : Prop where
  irr : ∀ x ∈ xs, ¬ cf x x < 0
  tr : ∀ x ∈ xs, ∀ y ∈ xs, ∀ z ∈ xs, cf x y < 0 → cf y z < 0 → cf x z < 0
  ntr : ∀ x ∈ xs, ∀ y ∈ xs, ∀ z ∈ xs, ¬ cf x y < 0 → ¬ cf y z < 0 → ¬ cf x z < 0
def Srt {α : Type} (cf : α → α → Int) (xs : List α) : Prop := xs.Pairwise (fun a b => ¬ cf b a < 0)
theorem Ord3.mono {α : Type} {cf : α → α → Int} {xs ys : List α} (h : Ord3 cf xs) (hs : ∀ y ∈ ys, y ∈ xs) : Ord3 cf ys :=
  ⟨fun x hx => h.irr x (hs x hx), fun x hx y hy z hz => h.tr x (hs x hx) y (hs y hy) z (hs z hz), fun x hx y hy z hz => h.ntr x (hs x hx) y (hs y hy) z (hs z hz)⟩

/-! insertion -/
def gIns_j1 {α : Type} (n4 : Int) (l7 : List α) (n8 : Int) (c9 : Bool) : Option (((List α) × Int) ⊕ (((List α) × Int) ⊕ (List α))) :=
  if c9 = true then
    (idx l7 (w64 (n8 - (1 : Int)))).bind fun v13 =>
    (idx l7 n8).bind fun v14 =>
    (idx l7 n8).bind fun v15 =>
    (idx (l7.set n8.toNat v13) (w64 (n8 - (1 : Int)))).bind fun v16 =>
    some (.inl ((l7.set n8.toNat v13).set (w64 (n8 - (1 : Int))).toNat v14, w64 (n8 - (1 : Int))))
  else
    Option.map .inr (some (.inl (l7, w64 (n4 + (1 : Int)))))
def gIns_b2 {α : Type} (p1x0 : Int) (fnd : α → α → Option Int) (n4 : Int) (l7 : List α) (n8 : Int) : Option (((List α) × Int) ⊕ (((List α) × Int) ⊕ (List α))) :=
  if p1x0 < n8 then
    (idx l7 n8).bind fun v10 =>
    (idx l7 (w64 (n8 - (1 : Int)))).bind fun v11 =>
    (fnd v10 v11).bind fun v12 =>
    gIns_j1 n4 l7 n8 (decide (v12 < (0 : Int)))
  else
    gIns_j1 n4 l7 n8 false
noncomputable def gIns_l2 {α : Type} (p1x0 : Int) (fnd : α → α → Option Int) (n4 : Int) (l7 : List α) (n8 : Int) : Option (((List α) × Int) ⊕ (List α)) :=
  iter (fun x : (List α) × Int => gIns_b2 p1x0 fnd n4 x.1 x.2) (l7, n8)
noncomputable def gIns_b1 {α : Type} (p1x0 : Int) (p2x0 : Int) (fnd : α → α → Option Int) (l3 : List α) (n4 : Int) : Option (((List α) × Int) ⊕ (List α)) :=
  if n4 < p2x0 then
    gIns_l2 p1x0 fnd n4 l3 n4
  else
    Option.map .inr (some l3)
noncomputable def gIns_l1 {α : Type} (p1x0 : Int) (p2x0 : Int) (fnd : α → α → Option Int) (l3 : List α) (n4 : Int) : Option (List α) :=
  iter (fun x : (List α) × Int => gIns_b1 p1x0 p2x0 fnd x.1 x.2) (l3, n4)
noncomputable def gIns {α : Type} (p0x0 : List α) (p1x0 : Int) (p2x0 : Int) (fnd : α → α → Option Int) : Option (List α) :=
  gIns_l1 p1x0 p2x0 fnd p0x0 (w64 (p1x0 + (1 : Int)))
theorem set_swap {α : Type} (P : List α) (x y : α) (T : List α) : ((P ++ y :: x :: T).set (P.length + 1) y).set P.length x = P ++ x :: y :: T := by
  induction P with
  | nil => rfl
  | cons p P ih => simp only [List.cons_append, List.length_cons, List.set_cons_succ, ih]
theorem idx_app {α : Type} (P : List α) (x : α) (T : List α) {i : Int} (hi : i = P.length) : idx (P ++ x :: T) i = some x := by
  subst hi
  unfold idx
  rw [if_pos (by omega)]
  simp
theorem ins_inner {α : Type} (fnd : α → α → Option Int) (cf : α → α → Int) (n4 : Int) (hn : n4 ≤ 1000000) (x : α) : ∀ (k : Nat) (P R post : List α), P.length = k → (P.length : Int) ≤ 1000000 →
    (∀ y ∈ P, fnd x y = some (cf x y)) → Ord3 cf (x :: (P ++ R)) → Srt cf (P ++ R) → (∀ r ∈ R, cf x r < 0) →
    ∃ Z, gIns_l2 0 fnd n4 (P ++ x :: (R ++ post)) P.length = some (.inl (Z ++ post, w64 (n4 + 1))) ∧ Z.Perm (x :: (P ++ R)) ∧ Srt cf Z := by
  intro k
  induction k with
  | zero =>
    intro P R post hP hl hf hO hs hR
    obtain rfl : P = [] := List.eq_nil_of_length_eq_zero hP
    refine ⟨x :: R, ?_, by simp, ?_⟩
    · unfold gIns_l2
      rw [iter_eq, gIns_b2, if_neg (by simp), gIns_j1, if_neg (by simp), map_inr_after]; simp
    · refine List.pairwise_cons.2 ⟨fun r hr hlt => ?_, by simpa [Srt] using hs⟩
      have h1 := hR r hr
      exact hO.irr x (by simp) (hO.tr x (by simp) r (by simp [hr]) x (by simp) h1 hlt)
  | succ k ih =>
    intro P R post hP hl hf hO hs hR
    obtain ⟨Q, y, rfl⟩ : ∃ Q y, P = Q ++ [y] := by
      rcases List.eq_nil_or_concat P with h | ⟨Q, y, h⟩
      · rw [h] at hP; simp at hP
      · exact ⟨Q, y, by simpa using h⟩
    have hQ : Q.length = k := by simpa using hP
    have hlen : ((Q ++ [y]).length : Int) = Q.length + 1 := by simp
    have hlq : (Q.length : Int) + 1 ≤ 1000000 := by rw [← hlen]; exact hl
    have w1 : w64 ((Q.length : Int) + 1 - 1) = Q.length := by rw [w64_in] <;> omega
    have e1 : (Q ++ [y]) ++ x :: (R ++ post) = Q ++ y :: x :: (R ++ post) := by simp
    have i1 : idx (Q ++ y :: x :: (R ++ post)) ((Q.length : Int) + 1) = some x := by
      have := idx_app (Q ++ [y]) x (R ++ post) (i := (Q.length : Int) + 1) (by simp)
      simpa using this
    have i0 : idx (Q ++ y :: x :: (R ++ post)) (Q.length : Int) = some y := idx_app Q y _ rfl
    rw [e1, hlen]
    by_cases hc : cf x y < 0
    · obtain ⟨Z, z1, z2, z3⟩ := ih Q (y :: R) post hQ (by omega) (fun z hz => hf z (by simp [hz])) (hO.mono (fun z hz => by simp at hz ⊢; rcases hz with h | h | h | h <;> simp [h])) (by simpa using hs) (fun r hr => by rcases List.mem_cons.1 hr with rfl | hr; exact hc; exact hR r hr)
      refine ⟨Z, ?_, z2.trans (by simp), z3⟩
      unfold gIns_l2 at z1 ⊢
      rw [iter_eq, gIns_b2, if_pos (by simp only; omega)]
      simp only [i1, w1, i0, Option.bind_some, hf y (by simp), hc, decide_true]
      unfold gIns_j1
      rw [if_pos rfl, w1]
      simp only [i0, i1, Option.bind_some]
      have i2 : idx ((Q ++ y :: x :: (R ++ post)).set ((Q.length : Int) + 1).toNat y) (Q.length : Int) = some y := by
        rw [show ((Q.length : Int) + 1).toNat = Q.length + 1 by omega]
        unfold idx
        rw [if_pos (by omega), List.getElem?_set_ne (by simp)]
        simp
      rw [i2]
      simp only [Option.bind_some, after_inl]
      have e2 : ((Q ++ y :: x :: (R ++ post)).set ((Q.length : Int) + 1).toNat y).set ((Q.length : Int)).toNat x = Q ++ x :: (y :: R ++ post) := by
        rw [show ((Q.length : Int) + 1).toNat = Q.length + 1 by omega, show ((Q.length : Int)).toNat = Q.length by omega, set_swap]; simp
      rw [e2]
      exact z1
    · refine ⟨Q ++ y :: x :: R, ?_, ?_, ?_⟩
      · unfold gIns_l2
        rw [iter_eq, gIns_b2, if_pos (by simp only; omega)]
        simp only [i1, w1, i0, Option.bind_some, hf y (by simp), hc, decide_false]
        unfold gIns_j1
        rw [if_neg (by simp), map_inr_after]; simp
      · have : (Q ++ y :: x :: R).Perm (x :: (Q ++ y :: R)) := by
          have h := List.perm_middle (a := x) (l₁ := Q ++ [y]) (l₂ := R)
          simpa using h
        simpa using this
      · unfold Srt at hs ⊢
        have hs' : (Q ++ y :: R).Pairwise (fun a b => ¬ cf b a < 0) := by simpa using hs
        rw [List.pairwise_append, List.pairwise_cons] at hs' ⊢
        obtain ⟨a1, ⟨a2, a3⟩, a4⟩ := hs'
        have hxQ : ∀ q ∈ Q, ¬ cf x q < 0 := fun q hq => hO.ntr x (by simp) y (by simp) q (by simp [hq]) hc (a4 q hq y (by simp))
        refine ⟨a1, ⟨fun z hz => ?_, List.pairwise_cons.2 ⟨fun r hr hlt => ?_, a3⟩⟩, fun q hq z hz => ?_⟩
        · rcases List.mem_cons.1 hz with rfl | hz
          · exact hc
          · exact a2 z hz
        · exact hO.irr x (by simp) (hO.tr x (by simp) r (by simp [hr]) x (by simp) (hR r hr) hlt)
        · rcases List.mem_cons.1 hz with rfl | hz
          · exact a4 q hq z (by simp)
          · rcases List.mem_cons.1 hz with rfl | hz
            · exact hxQ q hq
            · exact a4 q hq z (by simp [hz])
theorem ins_outer {α : Type} (fnd : α → α → Option Int) (cf : α → α → Int) (xs : List α) (hl : (xs.length : Int) ≤ 100000) (hf : ∀ x ∈ xs, ∀ y ∈ xs, fnd x y = some (cf x y)) (hO : Ord3 cf xs) : ∀ (n : Nat) (P post : List α) (i : Int), i = P.length → post.length = n → (P ++ post).Perm xs → Srt cf P →
    ∃ Z, gIns_l1 0 xs.length fnd (P ++ post) i = some Z ∧ Z.Perm xs ∧ Srt cf Z := by
  intro n
  induction n with
  | zero =>
    intro P post i hi hn hp hs
    obtain rfl : post = [] := List.eq_nil_of_length_eq_zero hn
    have hlen := hp.length_eq
    simp only [List.append_nil] at hp hlen ⊢
    refine ⟨P, ?_, hp, hs⟩
    unfold gIns_l1
    rw [iter_eq, gIns_b1, if_neg (by simp only; omega), map_inr_after]
  | succ n ih =>
    intro P post i hi hn hp hs
    match post, hn with
    | x :: r, hn =>
      have hlen := hp.length_eq
      simp only [List.length_append, List.length_cons] at hlen
      have hmem : ∀ z ∈ P ++ x :: r, z ∈ xs := fun z hz => hp.mem_iff.1 hz
      obtain ⟨Z, z1, z2, z3⟩ := ins_inner fnd cf i (by omega) x P.length P [] r rfl (by omega) (fun y hy => hf x (hmem x (by simp)) y (hmem y (by simp [hy]))) (hO.mono (fun z hz => hmem z (by simp at hz ⊢; rcases hz with h | h <;> simp [h]))) (by simpa using hs) (by simp)
      simp only [List.append_nil, List.nil_append] at z1 z2
      have hzl := z2.length_eq
      obtain ⟨Y, y1, y2, y3⟩ := ih Z r (i + 1) (by rw [hi]; simp at hzl; omega) (by simpa using hn) (by
        refine List.Perm.trans ?_ hp
        have : (Z ++ r).Perm ((x :: P) ++ r) := z2.append_right r
        refine this.trans ?_
        have h := List.perm_middle (a := x) (l₁ := P) (l₂ := r)
        simpa using h.symm) z3
      refine ⟨Y, ?_, y2, y3⟩
      unfold gIns_l1 at y1 ⊢
      rw [iter_eq, gIns_b1, if_pos (by simp only; omega)]
      simp only
      rw [← hi] at z1
      rw [z1]
      simp only [Option.bind_some, after_inl]
      rw [w64_in (by omega) (by omega)]
      exact y1
theorem gIns_eq {α : Type} (fnd : α → α → Option Int) (cf : α → α → Int) (xs : List α) (hl : (xs.length : Int) ≤ 100000) (hf : ∀ x ∈ xs, ∀ y ∈ xs, fnd x y = some (cf x y)) (hO : Ord3 cf xs) : ∃ Z, gIns xs 0 xs.length fnd = some Z ∧ Z.Perm xs ∧ Srt cf Z := by
  unfold gIns
  rw [show w64 (0 + 1) = 1 by decide]
  cases xs with
  | nil =>
    refine ⟨[], ?_, List.Perm.refl _, .nil⟩
    unfold gIns_l1
    rw [iter_eq, gIns_b1, if_neg (by simp), map_inr_after]
  | cons x r =>
    exact ins_outer fnd cf (x :: r) hl hf hO r.length [x] r 1 (by simp) rfl (List.Perm.refl _) (by simp [Srt])

/-! Go's own sort -/
theorem swo_of {α : Type} {f : α → α → Option Int} {cf : α → α → Int} {x : α} {r : List α} (hf : ∀ a ∈ x :: r, ∀ b ∈ x :: r, f a b = some (cf a b)) (hO : Ord3 cf (x :: r)) : Sort.SWO (Go.Proofs.ltOf (ordx f x r)) := by
  have e : ∀ i j, ordx f x r i j = cf (elx x r i) (elx x r j) := fun i j => by unfold ordx; rw [hf _ (elx_mem x r i) _ (elx_mem x r j)]; rfl
  refine ⟨fun i => ?_, fun i j k h1 h2 => ?_, fun i j k h1 h2 => ?_⟩
  · unfold Go.Proofs.ltOf; rw [e]; simpa using hO.irr _ (elx_mem x r i)
  · unfold Go.Proofs.ltOf at *; rw [e] at *
    simp only [decide_eq_true_eq] at *
    exact hO.tr _ (elx_mem x r i) _ (elx_mem x r j) _ (elx_mem x r k) h1 h2
  · unfold Go.Proofs.ltOf at *; rw [e] at *
    simp only [decide_eq_false_iff_not] at *
    exact hO.ntr _ (elx_mem x r i) _ (elx_mem x r j) _ (elx_mem x r k) h1 h2
theorem range_map {α : Type} (x : α) (r : List α) : (List.range (r.length + 1)).map (elx x r) = x :: r := by
  apply List.ext_getElem?
  intro i
  rw [List.getElem?_map]
  by_cases hi : i < r.length + 1
  · rw [List.getElem?_range hi, Option.map_some]
    unfold elx
    rw [List.getD_eq_getElem?_getD, List.getElem?_eq_getElem (l := x :: r) (by simpa using hi)]; rfl
  · rw [List.getElem?_eq_none (by simp; omega), List.getElem?_eq_none (by simp; omega)]; rfl
theorem sortO_eq {α : Type} (f : α → α → Option Int) (cf : α → α → Int) (xs : List α) (hl : xs.length ≤ 100000) (hf : ∀ a ∈ xs, ∀ b ∈ xs, f a b = some (cf a b)) (hO : Ord3 cf xs) : ∃ Z, sortO f xs = some Z ∧ Z.Perm xs ∧ Srt cf Z := by
  cases xs with
  | nil => exact ⟨[], rfl, List.Perm.refl _, .nil⟩
  | cons x r =>
    have hS := swo_of hf hO
    have hlen : r.length + 1 ≤ 100000 := by simpa using hl
    rw [sortO_cons, if_pos ⟨by omega, fun a ha b hb => ⟨_, hf a ha b hb⟩, hS⟩]
    have hps := Sort.pdq_sorts (Go.Proofs.ltOf (ordx f x r)) hS (Array.range (r.length + 1)) 0 (r.length + 1) (Lib.bitLen (r.length + 1)) true true (Nat.zero_le _) (by simp) (Or.inl rfl)
    generalize Sort.pdq (Go.Proofs.ltOf (ordx f x r)) (Array.range (r.length + 1)) 0 (r.length + 1) (Lib.bitLen (r.length + 1)) true true = d at hps
    obtain ⟨⟨h1, _, h3⟩, h4⟩ := hps
    have hd : d.size = r.length + 1 := by simpa using h1
    have hperm : d.toList.Perm (List.range (r.length + 1)) := by
      have a1 : (d.extract 0 (r.length + 1)).toList = d.toList := by
        rw [Array.toList_extract]
        simp [List.extract]
        exact List.take_of_length_le (by simp [hd])
      have a2 : ((Array.range (r.length + 1)).extract 0 (r.length + 1)).toList = List.range (r.length + 1) := by
        rw [Array.toList_extract]
        simp [List.extract]
      rw [a1, a2] at h3
      exact h3
    refine ⟨_, rfl, ?_, ?_⟩
    · have := hperm.map (elx x r)
      rw [range_map] at this
      exact this
    · unfold Srt
      rw [List.pairwise_map, List.pairwise_iff_getElem]
      intro i j hi hj hij
      have hi' : i < d.size := by simpa using hi
      have hj' : j < d.size := by simpa using hj
      have h := h4 i j (Nat.zero_le _) hij (by omega)
      unfold Go.Proofs.ltOf ordx at h
      rw [hf _ (elx_mem x r _) _ (elx_mem x r _)] at h
      simp only [Option.getD_some, decide_eq_false_iff_not] at h
      rw [getElem!_pos d i hi', getElem!_pos d j hj'] at h
      simpa using h
/-- Where equals are one, there is one sorted list. -/
theorem srt_unique {α : Type} {cf : α → α → Int} : ∀ {X Y : List α}, X.Perm Y → Srt cf X → Srt cf Y → (∀ a ∈ X, ∀ b ∈ X, ¬ cf a b < 0 → ¬ cf b a < 0 → a = b) → X = Y
  | [], Y, hp, _, _, _ => by rw [List.nil_perm.1 hp]
  | x :: X, [], hp, _, _, _ => by have := hp.length_eq; simp at this
  | x :: X, y :: Y, hp, hX, hY, ha => by
    have hxy : x = y := by
      have hx : x ∈ y :: Y := hp.mem_iff.1 (by simp)
      have hy : y ∈ x :: X := hp.mem_iff.2 (by simp)
      rcases List.mem_cons.1 hx with h | h
      · exact h
      · rcases List.mem_cons.1 hy with h' | h'
        · exact h'.symm
        · exact ha x (by simp) y (by simp [h']) ((List.pairwise_cons.1 hY).1 x h) ((List.pairwise_cons.1 hX).1 y h')
    subst hxy
    rw [srt_unique (List.Perm.cons_inv hp) (List.pairwise_cons.1 hX).2 (List.pairwise_cons.1 hY).2 (fun a h b h' => ha a (by simp [h]) b (by simp [h']))]
end Go.Beacon

/- Plain facts of compacting, deleting and joining lists of anything. No program in sight. -/
set_option linter.unusedVariables false
set_option linter.unusedSimpArgs false
namespace Go.Beacon
open Go Go.Eng

/-! slices.CompactFunc -/
def gCptF_j1 {α : Type} (n12 : Int) (l16 : List α) (n17 : Int) : Option (((List α) × Int × Int) ⊕ (Int ⊕ (List α))) :=
  some (.inl (l16, n17, w64 (n12 + (1 : Int))))
def gCptF_k2 {α : Type} (Z : α) (l10 : List α) (n11 : Int) : Option (Int ⊕ (List α)) :=
  (slc l10 n11 (l10.length : Int)).bind fun l20 =>
  (slc (clr l10 n11 l20.length Z) (0 : Int) n11).bind fun l21 =>
  Option.map .inr (some l21)
def gCptF_b2 {α : Type} (Z : α) (fnb : α → α → Option Bool) (n2 : Int) (l6 : List α) (l10 : List α) (n11 : Int) (n12 : Int) : Option (((List α) × Int × Int) ⊕ (Int ⊕ (List α))) :=
  if n12 < (l6.length : Int) then
    (idxS l10 n2 l6.length n12).bind fun v13 =>
    (idxS l10 n2 l6.length (w64 (n12 - (1 : Int)))).bind fun v14 =>
    (fnb v13 v14).bind fun v15 =>
    if (!v15) = true then
      (idxS l10 n2 l6.length n12).bind fun v18 =>
      (idx l10 n11).bind fun v19 =>
      gCptF_j1 n12 (l10.set n11.toNat v18) (w64 (n11 + (1 : Int)))
    else
      gCptF_j1 n12 l10 n11
  else
    Option.map .inr (gCptF_k2 Z l10 n11)
noncomputable def gCptF_l2 {α : Type} (Z : α) (fnb : α → α → Option Bool) (n2 : Int) (l6 : List α) (l10 : List α) (n11 : Int) (n12 : Int) : Option (Int ⊕ (List α)) :=
  iter (fun x : (List α) × Int × Int => gCptF_b2 Z fnb n2 l6 x.1 x.2.1 x.2.2) (l10, n11, n12)
noncomputable def gCptF_b1 {α : Type} (Z : α) (p0x0 : List α) (fnb : α → α → Option Bool) (n2 : Int) : Option (Int ⊕ (List α)) :=
  if n2 < (p0x0.length : Int) then
    (idx p0x0 n2).bind fun v3 =>
    (idx p0x0 (w64 (n2 - (1 : Int)))).bind fun v4 =>
    (fnb v3 v4).bind fun v5 =>
    if v5 = true then
      (slc p0x0 n2 (p0x0.length : Int)).bind fun l6 =>
      gCptF_l2 Z fnb n2 l6 p0x0 n2 (1 : Int)
    else
      some (.inl (w64 (n2 + (1 : Int))))
  else
    Option.map .inr (some p0x0)
noncomputable def gCptF_l1 {α : Type} (Z : α) (p0x0 : List α) (fnb : α → α → Option Bool) (n2 : Int) : Option (List α) :=
  iter (fun x : Int => gCptF_b1 Z p0x0 fnb x) n2
noncomputable def gCptF {α : Type} (Z : α) (p0x0 : List α) (fnb : α → α → Option Bool) : Option (List α) :=
  if (p0x0.length : Int) < (2 : Int) then
    some p0x0
  else
    gCptF_l1 Z p0x0 fnb (1 : Int)
/-- Without what is like the one ahead of it. -/
def ddA {α : Type} (e : α → α → Bool) : α → List α → List α
  | _, [] => []
  | p, y :: r => if e y p = true then ddA e y r else y :: ddA e y r
def dd {α : Type} (e : α → α → Bool) : List α → List α
  | [] => []
  | x :: r => x :: ddA e x r
theorem ddA_snoc {α : Type} (e : α → α → Bool) : ∀ (p : α) (ys : List α) (y z : α), ddA e p (ys ++ [y, z]) = if e z y = true then ddA e p (ys ++ [y]) else ddA e p (ys ++ [y]) ++ [z]
  | p, [], y, z => by
    simp only [List.nil_append, ddA]
    by_cases h1 : e y p = true <;> by_cases h2 : e z y = true <;> simp [h1, h2]
  | p, w :: ys, y, z => by
    simp only [List.cons_append, ddA, ddA_snoc e w ys y z]
    by_cases h1 : e w p = true <;> by_cases h2 : e z y = true <;> simp [h1, h2]
theorem dd_snoc {α : Type} (e : α → α → Bool) (ys : List α) (y z : α) : dd e (ys ++ [y, z]) = if e z y = true then dd e (ys ++ [y]) else dd e (ys ++ [y]) ++ [z] := by
  cases ys with
  | nil =>
    simp only [List.nil_append, dd, ddA]
    by_cases h2 : e z y = true <;> simp [h2]
  | cons w ys =>
    simp only [List.cons_append, dd, ddA_snoc e w ys y z]
    by_cases h2 : e z y = true <;> simp [h2]
theorem take_two {α : Type} {xs : List α} {m : Nat} (h1 : 1 ≤ m) (h2 : m < xs.length) : xs.take (m + 1) = xs.take (m - 1) ++ [xs[m - 1], xs[m]] ∧ xs.take m = xs.take (m - 1) ++ [xs[m - 1]] := by
  have a : xs.take m = xs.take (m - 1) ++ [xs[m - 1]] := by
    have := List.take_append_getElem (l := xs) (i := m - 1) (by omega)
    rw [show m - 1 + 1 = m by omega] at this
    exact this.symm
  refine ⟨?_, a⟩
  have := List.take_append_getElem (l := xs) (i := m) h2
  rw [← this, a, List.append_assoc]; rfl
theorem dd_take {α : Type} (e : α → α → Bool) {xs : List α} {m : Nat} (h1 : 1 ≤ m) (h2 : m < xs.length) : dd e (xs.take (m + 1)) = if e xs[m] xs[m - 1] = true then dd e (xs.take m) else dd e (xs.take m) ++ [xs[m]] := by
  obtain ⟨a, b⟩ := take_two h1 h2
  rw [a, b]; exact dd_snoc e _ _ _
theorem ddA_len {α : Type} (e : α → α → Bool) : ∀ (p : α) (r : List α), (ddA e p r).length ≤ r.length
  | _, [] => by simp [ddA]
  | p, y :: r => by
    have := ddA_len e y r
    simp only [ddA]
    split <;> simp <;> omega
theorem dd_len {α : Type} (e : α → α → Bool) (xs : List α) : (dd e xs).length ≤ xs.length := by
  cases xs with
  | nil => simp [dd]
  | cons x r => have := ddA_len e x r; simp [dd]; omega
theorem get_idx {α : Type} {xs : List α} {i : Int} (h0 : 0 ≤ i) (h1 : i.toNat < xs.length) : idx xs i = some xs[i.toNat] := by
  unfold idx; rw [if_pos h0]; simp [h1]
theorem cut_k2 {α : Type} (Z : α) (l : List α) {k : Int} (h0 : 0 ≤ k) (h1 : k ≤ l.length) : gCptF_k2 Z l k = some (.inr (l.take k.toNat)) := by
  unfold gCptF_k2
  rw [slc_in h0 h1 (by omega)]
  simp only [Option.bind_some]
  have hlen : (((l.drop k.toNat).take (((l.length : Int)).toNat - k.toNat)).length) = l.length - k.toNat := by simp
  rw [hlen, slc_in (by omega) h0 (by unfold clr; simp; omega)]
  simp only [Option.bind_some, Option.map_some, Option.some.injEq, Sum.inr.injEq]
  unfold clr
  simp only [Int.toNat_zero, List.drop_zero, Nat.sub_zero]
  rw [List.append_assoc, List.take_append_of_le_length (by simp; omega), List.take_take]
  congr 1; omega
theorem cpt_inner {α : Type} (Z : α) (fnb : α → α → Option Bool) (e : α → α → Bool) (xs : List α) (hl : (xs.length : Int) ≤ 100000) (hf : ∀ x ∈ xs, ∀ y ∈ xs, fnb x y = some (e x y)) (k0 : Int) (h0 : 1 ≤ k0) (h1 : k0 < xs.length) (l6 : List α) (hl6 : (l6.length : Int) = xs.length - k0) : ∀ (n : Nat) (l : List α) (k k2 : Int), 1 ≤ k2 → k2 + n = l6.length → l.length = xs.length → 0 ≤ k → k ≤ k0 + k2 - 1 →
    l.drop (k0 + k2 - 1).toNat = xs.drop (k0 + k2 - 1).toNat → l.take k.toNat = dd e (xs.take (k0 + k2).toNat) → gCptF_l2 Z fnb k0 l6 l k k2 = some (.inr (dd e xs)) := by
  intro n
  induction n with
  | zero =>
    intro l k k2 g1 g2 g3 g4 g5 g6 g7
    unfold gCptF_l2
    rw [iter_eq, gCptF_b2, if_neg (by simp only; omega), map_inr_after, cut_k2 Z l g4 (by omega), g7, List.take_of_length_le (by omega)]
  | succ n ih =>
    intro l k k2 g1 g2 g3 g4 g5 g6 g7
    have w1 : w64 (k2 + 1) = k2 + 1 := by rw [w64_in] <;> omega
    have w2 : w64 (k2 - 1) = k2 - 1 := by rw [w64_in] <;> omega
    have w3 : w64 (k + 1) = k + 1 := by rw [w64_in] <;> omega
    have hgl : ∀ m : Nat, (k0 + k2 - 1).toNat ≤ m → l[m]? = xs[m]? := by
      intro m hm
      have := congrArg (fun q : List α => q[m - (k0 + k2 - 1).toNat]?) g6
      simp only [List.getElem?_drop] at this
      rw [show (k0 + k2 - 1).toNat + (m - (k0 + k2 - 1).toNat) = m by omega] at this
      exact this
    have hm1 : (k0 + k2).toNat < xs.length := by omega
    have e1 : idxS l k0 l6.length k2 = some xs[(k0 + k2).toNat] := by
      unfold idxS
      rw [if_pos ⟨by omega, by omega, by omega⟩]
      unfold idx
      rw [if_pos (by omega), hgl _ (by omega)]; simp [hm1]
    have e2 : idxS l k0 l6.length (k2 - 1) = some xs[(k0 + k2).toNat - 1] := by
      unfold idxS
      rw [if_pos ⟨by omega, by omega, by omega⟩]
      unfold idx
      rw [if_pos (by omega), hgl _ (by omega), show (k0 + (k2 - 1)).toNat = (k0 + k2).toNat - 1 by omega, List.getElem?_eq_getElem (by omega)]
    have hdd := dd_take e (xs := xs) (m := (k0 + k2).toNat) (by omega) hm1
    rw [show (k0 + k2).toNat + 1 = (k0 + (k2 + 1)).toNat by omega] at hdd
    unfold gCptF_l2 at ih ⊢
    rw [iter_eq, gCptF_b2, if_pos (by simp only; omega)]
    simp only [w2, e1, e2, Option.bind_some, hf _ (List.getElem_mem hm1) _ (List.getElem_mem (show (k0 + k2).toNat - 1 < xs.length by omega))]
    unfold gCptF_j1
    rw [w1]
    by_cases hc : e xs[(k0 + k2).toNat] xs[(k0 + k2).toNat - 1] = true
    · rw [if_pos hc] at hdd
      rw [hc, if_neg (by simp)]
      simp only [Option.bind_some, after_inl]
      refine ih l k (k2 + 1) (by omega) (by omega) g3 g4 (by omega) ?_ (by rw [g7, hdd])
      have := congrArg (List.drop 1) g6
      rw [List.drop_drop, List.drop_drop, show (k0 + k2 - 1).toNat + 1 = (k0 + (k2 + 1) - 1).toNat by omega] at this
      exact this
    · rw [if_neg hc] at hdd
      rw [Bool.not_eq_true] at hc
      rw [hc, if_pos (by simp)]
      obtain ⟨y, hy, _, _⟩ := idx_lt l (i := k) g4 (by omega)
      simp only [hy, Option.bind_some, after_inl, w3]
      refine ih (l.set k.toNat _) (k + 1) (k2 + 1) (by omega) (by omega) (by simpa using g3) (by omega) (by omega) ?_ ?_
      · apply List.ext_getElem?
        intro m
        rw [List.getElem?_drop, List.getElem?_drop, List.getElem?_set_ne (by omega), hgl _ (by omega)]
      · rw [hdd, ← g7, show (k + 1).toNat = k.toNat + 1 by omega]
        apply List.ext_getElem?
        intro m
        have hkl : k.toNat < l.length := by omega
        by_cases hm : m < k.toNat
        · rw [List.getElem?_take, if_pos (by omega), List.getElem?_set_ne (by omega), List.getElem?_append_left (by simp; omega), List.getElem?_take, if_pos hm]
        · by_cases hm2 : m = k.toNat
          · subst hm2
            rw [List.getElem?_take, if_pos (by omega), List.getElem?_set_self hkl, List.getElem?_append_right (by simp only [List.length_take]; omega)]
            simp [Nat.min_eq_left (Nat.le_of_lt hkl)]
          · rw [List.getElem?_eq_none (by simp; omega), List.getElem?_eq_none (by simp; omega)]
theorem gCptF_eq {α : Type} (Z : α) (fnb : α → α → Option Bool) (e : α → α → Bool) (xs : List α) (hl : (xs.length : Int) ≤ 100000) (hf : ∀ x ∈ xs, ∀ y ∈ xs, fnb x y = some (e x y)) : gCptF Z xs fnb = some (dd e xs) := by
  unfold gCptF
  by_cases h2 : (xs.length : Int) < 2
  · rw [if_pos h2]
    cases xs with
    | nil => rfl
    | cons x r =>
      cases r with
      | nil => rfl
      | cons y r => simp only [List.length_cons] at h2; omega
  · rw [if_neg h2]
    have key : ∀ (n : Nat) (i : Int), 1 ≤ i → i + n = xs.length → dd e (xs.take i.toNat) = xs.take i.toNat → gCptF_l1 Z xs fnb i = some (dd e xs) := by
      intro n
      induction n with
      | zero =>
        intro i h0 h1 hd
        unfold gCptF_l1
        rw [iter_eq, gCptF_b1, if_neg (by omega), map_inr_after]
        rw [List.take_of_length_le (by omega)] at hd
        rw [hd]
      | succ n ih =>
        intro i h0 h1 hd
        have w1 : w64 (i + 1) = i + 1 := by rw [w64_in] <;> omega
        have w2 : w64 (i - 1) = i - 1 := by rw [w64_in] <;> omega
        have hm : i.toNat < xs.length := by omega
        have e1 := get_idx (xs := xs) (i := i) (by omega) hm
        have e2 : idx xs (i - 1) = some xs[i.toNat - 1] := by
          unfold idx
          rw [if_pos (by omega), show (i - 1).toNat = i.toNat - 1 by omega, List.getElem?_eq_getElem (by omega)]
        have hdd := dd_take e (xs := xs) (m := i.toNat) (by omega) hm
        rw [show i.toNat + 1 = (i + 1).toNat by omega] at hdd
        unfold gCptF_l1 at ih ⊢
        rw [iter_eq, gCptF_b1, if_pos (by omega)]
        simp only [w2, e1, e2, Option.bind_some, hf _ (List.getElem_mem hm) _ (List.getElem_mem (show i.toNat - 1 < xs.length by omega))]
        by_cases hc : e xs[i.toNat] xs[i.toNat - 1] = true
        · rw [if_pos hc] at hdd
          rw [hc, if_pos rfl, slc_in (by omega) (by omega) (by omega)]
          simp only [Option.bind_some]
          have hlen : ((((xs.drop i.toNat).take (((xs.length : Int)).toNat - i.toNat)).length : Nat) : Int) = xs.length - i := by simp; omega
          rw [cpt_inner Z fnb e xs hl hf i h0 (by omega) _ hlen n xs i 1 (by omega) (by rw [hlen]; omega) rfl (by omega) (by omega) rfl (by rw [hdd, hd])]
          rfl
        · rw [if_neg hc] at hdd
          rw [Bool.not_eq_true] at hc
          rw [hc, if_neg (by simp), w1]
          simp only [Option.bind_some, after_inl]
          refine ih (i + 1) (by omega) (by omega) ?_
          rw [hdd, hd]
          have := List.take_append_getElem (l := xs) (i := i.toNat) hm
          rw [this, show i.toNat + 1 = (i + 1).toNat by omega]
    refine key (xs.length - 1) 1 (by omega) (by omega) ?_
    cases xs with
    | nil => simp at h2
    | cons x r => rfl

/-! slices.Compact -/
def gCpt_b2 {α : Type} [DecidableEq α] (Z : α) (n2 : Int) (l5 : List α) (l9 : List α) (n10 : Int) (n11 : Int) : Option (((List α) × Int × Int) ⊕ (Int ⊕ (List α))) :=
  if n11 < (l5.length : Int) then
    (idxS l9 n2 l5.length n11).bind fun v12 =>
    (idxS l9 n2 l5.length (w64 (n11 - (1 : Int)))).bind fun v13 =>
    if v12 ≠ v13 then
      (idxS l9 n2 l5.length n11).bind fun v16 =>
      (idx l9 n10).bind fun v17 =>
      gCptF_j1 n11 (l9.set n10.toNat v16) (w64 (n10 + (1 : Int)))
    else
      gCptF_j1 n11 l9 n10
  else
    Option.map .inr (gCptF_k2 Z l9 n10)
noncomputable def gCpt_l2 {α : Type} [DecidableEq α] (Z : α) (n2 : Int) (l5 : List α) (l9 : List α) (n10 : Int) (n11 : Int) : Option (Int ⊕ (List α)) :=
  iter (fun x : (List α) × Int × Int => gCpt_b2 Z n2 l5 x.1 x.2.1 x.2.2) (l9, n10, n11)
noncomputable def gCpt_b1 {α : Type} [DecidableEq α] (Z : α) (p0x0 : List α) (n2 : Int) : Option (Int ⊕ (List α)) :=
  if n2 < (p0x0.length : Int) then
    (idx p0x0 n2).bind fun v3 =>
    (idx p0x0 (w64 (n2 - (1 : Int)))).bind fun v4 =>
    if v3 = v4 then
      (slc p0x0 n2 (p0x0.length : Int)).bind fun l5 =>
      gCpt_l2 Z n2 l5 p0x0 n2 (1 : Int)
    else
      some (.inl (w64 (n2 + (1 : Int))))
  else
    Option.map .inr (some p0x0)
noncomputable def gCpt {α : Type} [DecidableEq α] (Z : α) (p0x0 : List α) : Option (List α) :=
  if (p0x0.length : Int) < (2 : Int) then
    some p0x0
  else
    iter (fun x : Int => gCpt_b1 Z p0x0 x) (1 : Int)
def eqB {α : Type} [DecidableEq α] (a b : α) : Bool := decide (a = b)
theorem gCpt_b2_eq {α : Type} [DecidableEq α] (Z : α) (n2 : Int) (l5 l9 : List α) (n10 n11 : Int) : gCpt_b2 Z n2 l5 l9 n10 n11 = gCptF_b2 Z (fun a b => some (eqB a b)) n2 l5 l9 n10 n11 := by
  unfold gCpt_b2 gCptF_b2
  congr 1
  congr 1; funext v12
  congr 1; funext v13
  simp only [Option.bind_some, eqB]
  by_cases h : v12 = v13 <;> simp [h]
theorem gCpt_eq {α : Type} [DecidableEq α] (Z : α) (xs : List α) (hl : (xs.length : Int) ≤ 100000) : gCpt Z xs = some (dd eqB xs) := by
  rw [← gCptF_eq Z (fun a b => some (eqB a b)) eqB xs hl (fun x _ y _ => rfl)]
  unfold gCpt gCptF gCptF_l1
  congr 2
  funext i
  unfold gCpt_b1 gCptF_b1 gCpt_l2 gCptF_l2
  congr 1
  congr 1; funext v3
  congr 1; funext v4
  have : (fun x : (List α) × Int × Int => gCptF_b2 Z (fun a b => some (eqB a b)) i ((xs.drop 0)) x.1 x.2.1 x.2.2) = fun x => gCptF_b2 Z (fun a b => some (eqB a b)) i (xs.drop 0) x.1 x.2.1 x.2.2 := rfl
  simp only [Option.bind_some, gCpt_b2_eq]
  by_cases h : v3 = v4
  · simp [h, eqB]
  · simp [h, eqB]

/-! slices.DeleteFunc -/
def gDel_j1 {α : Type} (n7 : Int) (l11 : List α) (n12 : Int) : Option (((List α) × Int × Int) ⊕ (List α)) :=
  some (.inl (l11, n12, w64 (n7 + (1 : Int))))
def gDel_k2 {α : Type} (Z : α) (l5 : List α) (n6 : Int) : Option (List α) :=
  (slc l5 n6 (l5.length : Int)).bind fun l14 =>
  (slc (clr l5 n6 l14.length Z) (0 : Int) n6).bind fun l15 =>
  some l15
def gDel_b1 {α : Type} (Z : α) (fnb : α → Option Bool) (l5 : List α) (n6 : Int) (n7 : Int) : Option (((List α) × Int × Int) ⊕ (List α)) :=
  if n7 < (l5.length : Int) then
    (idx l5 n7).bind fun v8 =>
    (fnb v8).bind fun v10 =>
    if (!v10) = true then
      (idx l5 n6).bind fun v13 =>
      gDel_j1 n7 (l5.set n6.toNat v8) (w64 (n6 + (1 : Int)))
    else
      gDel_j1 n7 l5 n6
  else
    Option.map .inr (gDel_k2 Z l5 n6)
noncomputable def gDel {α : Type} (Z : α) (p0x0 : List α) (fnb : α → Option Bool) : Option (List α) :=
  (gIndexFunc p0x0 fnb).bind fun v1 =>
  if v1 = (-1 : Int) then
    some p0x0
  else
    iter (fun x : (List α) × Int × Int => gDel_b1 Z fnb x.1 x.2.1 x.2.2) (p0x0, v1, w64 (v1 + (1 : Int)))
theorem cut_del {α : Type} (Z : α) (l : List α) {k : Int} (h0 : 0 ≤ k) (h1 : k ≤ l.length) : gDel_k2 Z l k = some (l.take k.toNat) := by
  have := cut_k2 Z l h0 h1
  unfold gCptF_k2 at this
  unfold gDel_k2
  cases h : slc l k l.length with
  | none => rw [h] at this; simp at this
  | some v =>
    rw [h] at this
    simp only [Option.bind_some] at this ⊢
    cases h2 : slc (clr l k v.length Z) 0 k with
    | none => rw [h2] at this; simp at this
    | some u => rw [h2] at this; simpa using this
theorem filter_take {α : Type} (p : α → Bool) {xs : List α} {m : Nat} (h : m < xs.length) : (xs.take (m + 1)).filter p = if p xs[m] = true then (xs.take m).filter p ++ [xs[m]] else (xs.take m).filter p := by
  rw [← List.take_append_getElem h, List.filter_append]
  by_cases hp : p xs[m] = true <;> simp [hp]
theorem del_loop {α : Type} (Z : α) (fnb : α → Option Bool) (p : α → Bool) (xs : List α) (hl : (xs.length : Int) ≤ 100000) (hf : ∀ x ∈ xs, fnb x = some (p x)) : ∀ (n : Nat) (l : List α) (k j : Int), 1 ≤ j → j + n = xs.length → l.length = xs.length → 0 ≤ k → k < j → l.drop j.toNat = xs.drop j.toNat → l.take k.toNat = (xs.take j.toNat).filter (fun x => !p x) →
    iter (fun x : (List α) × Int × Int => gDel_b1 Z fnb x.1 x.2.1 x.2.2) (l, k, j) = some (xs.filter (fun x => !p x)) := by
  intro n
  induction n with
  | zero =>
    intro l k j g1 g2 g3 g4 g5 g6 g7
    rw [iter_eq, gDel_b1, if_neg (by simp only; omega), map_inr_after, cut_del Z l g4 (by omega), g7, List.take_of_length_le (by omega)]
  | succ n ih =>
    intro l k j g1 g2 g3 g4 g5 g6 g7
    have w1 : w64 (j + 1) = j + 1 := by rw [w64_in] <;> omega
    have w3 : w64 (k + 1) = k + 1 := by rw [w64_in] <;> omega
    have hm : j.toNat < xs.length := by omega
    have hgl : ∀ m : Nat, j.toNat ≤ m → l[m]? = xs[m]? := by
      intro m hm
      have := congrArg (fun q : List α => q[m - j.toNat]?) g6
      simp only [List.getElem?_drop] at this
      rw [show j.toNat + (m - j.toNat) = m by omega] at this
      exact this
    have e1 : idx l j = some xs[j.toNat] := by
      unfold idx; rw [if_pos (by omega), hgl _ (Nat.le_refl _)]; simp [hm]
    have hft := filter_take (fun x => !p x) hm
    rw [show j.toNat + 1 = (j + 1).toNat by omega] at hft
    have hdr : l.drop (j + 1).toNat = xs.drop (j + 1).toNat := by
      have := congrArg (List.drop 1) g6
      rw [List.drop_drop, List.drop_drop, show j.toNat + 1 = (j + 1).toNat by omega] at this
      exact this
    rw [iter_eq, gDel_b1, if_pos (by simp only; omega)]
    simp only [e1, Option.bind_some, hf _ (List.getElem_mem hm)]
    unfold gDel_j1
    rw [w1]
    cases hp : p xs[j.toNat] with
    | true =>
      rw [hp] at hft
      simp only [Bool.not_true, Bool.false_eq_true, if_false] at hft ⊢
      simp only [Option.bind_some, after_inl]
      exact ih l k (j + 1) (by omega) (by omega) g3 g4 (by omega) hdr (by rw [g7, hft])
    | false =>
      rw [hp] at hft
      simp only [Bool.not_false, if_true] at hft ⊢
      obtain ⟨y, hy, _, _⟩ := idx_lt l (i := k) g4 (by omega)
      simp only [hy, Option.bind_some, after_inl, w3]
      refine ih (l.set k.toNat _) (k + 1) (j + 1) (by omega) (by omega) (by simpa using g3) (by omega) (by omega) ?_ ?_
      · apply List.ext_getElem?
        intro m
        rw [List.getElem?_drop, List.getElem?_drop, List.getElem?_set_ne (by omega), hgl _ (by omega)]
      · rw [hft, ← g7, show (k + 1).toNat = k.toNat + 1 by omega]
        apply List.ext_getElem?
        intro m
        have hkl : k.toNat < l.length := by omega
        by_cases hm : m < k.toNat
        · rw [List.getElem?_take, if_pos (by omega), List.getElem?_set_ne (by omega), List.getElem?_append_left (by simp; omega), List.getElem?_take, if_pos hm]
        · by_cases hm2 : m = k.toNat
          · subst hm2
            rw [List.getElem?_take, if_pos (by omega), List.getElem?_set_self hkl, List.getElem?_append_right (by simp only [List.length_take]; omega)]
            simp [Nat.min_eq_left (Nat.le_of_lt hkl)]
          · rw [List.getElem?_eq_none (by simp; omega), List.getElem?_eq_none (by simp; omega)]
theorem findI_first {α : Type} (p : α → Bool) : ∀ (xs : List α) (i : Int), 0 ≤ i → (findI p xs i = -1 ∧ ∀ x ∈ xs, p x = false) ∨ (i ≤ findI p xs i ∧ findI p xs i < i + xs.length ∧ (∀ x ∈ xs.take (findI p xs i - i).toNat, p x = false) ∧ ∃ y, xs[(findI p xs i - i).toNat]? = some y ∧ p y = true)
  | [], i, h => .inl ⟨rfl, by simp⟩
  | x :: r, i, h => by
    by_cases hp : p x = true
    · have e : findI p (x :: r) i = i := by simp [findI, hp]
      rw [e]
      exact .inr ⟨by omega, by simp; omega, by simp, x, by simp, hp⟩
    · have e : findI p (x :: r) i = findI p r (i + 1) := by simp [findI, hp]
      rw [e]
      have hp' : p x = false := by simpa using hp
      rcases findI_first p r (i + 1) (by omega) with ⟨h1, h2⟩ | ⟨h1, h2, h3, y, h4, h5⟩
      · exact .inl ⟨h1, fun y hy => by rcases List.mem_cons.1 hy with rfl | hy; exact hp'; exact h2 y hy⟩
      · have e : (findI p r (i + 1) - i).toNat = (findI p r (i + 1) - (i + 1)).toNat + 1 := by omega
        refine .inr ⟨by omega, by simp; omega, ?_, y, ?_, h5⟩
        · rw [e]
          intro y hy
          rw [List.take_succ_cons] at hy
          rcases List.mem_cons.1 hy with rfl | hy
          · exact hp'
          · exact h3 y hy
        · rw [e, List.getElem?_cons_succ]; exact h4
theorem gDel_eq {α : Type} (Z : α) (fnb : α → Option Bool) (p : α → Bool) (xs : List α) (hl : (xs.length : Int) ≤ 100000) (hf : ∀ x ∈ xs, fnb x = some (p x)) : gDel Z xs fnb = some (xs.filter (fun x => !p x)) := by
  unfold gDel
  rw [gIndexFunc_eq xs fnb p hf (by omega)]
  simp only [Option.bind_some]
  rcases findI_first p xs 0 (by omega) with ⟨h1, h2⟩ | ⟨h1, h2, h3, y, h4, h5⟩
  · rw [if_pos h1]
    congr 1
    exact (List.filter_eq_self.2 (fun x hx => by simp [h2 x hx])).symm
  · generalize findI p xs 0 = v at *
    simp only [Int.sub_zero] at h3 h4 h5
    rw [if_neg (by omega), w64_in (by omega) (by omega)]
    refine del_loop Z fnb p xs hl hf (xs.length - (v + 1).toNat) xs v (v + 1) (by omega) (by omega) rfl h1 (by omega) rfl ?_
    obtain ⟨h4', h4''⟩ := List.getElem?_eq_some_iff.1 h4
    have hft := filter_take (fun x => !p x) h4'
    rw [show v.toNat + 1 = (v + 1).toNat by omega, h4''] at hft
    rw [hft, h5]
    simp only [Bool.not_true, Bool.false_eq_true, if_false]
    exact (List.filter_eq_self.2 (fun x hx => by simp [h3 x hx])).symm
end Go.Beacon

/- Plain merging: orders, sorted lists without twins. For any type. No program in sight. -/
set_option linter.unusedVariables false
set_option linter.unusedSimpArgs false
namespace Go.Beacon
open Go Go.Eng

/-- A comparison in three ways. -/
structure Cmp3 {α : Type} (c : α → α → Int) : Prop where
  neg : ∀ a b, c a b = - c b a
  tr : ∀ {a b d}, c a b < 0 → c b d < 0 → c a d < 0
  cg : ∀ {a b d}, c a b = 0 → c b d < 0 → c a d < 0
theorem Cmp3.zero {α : Type} {c : α → α → Int} (h : Cmp3 c) (a : α) : c a a = 0 := by have := h.neg a a; omega
theorem Cmp3.cg' {α : Type} {c : α → α → Int} (h : Cmp3 c) {a b d : α} (h0 : c a b = 0) (h1 : c d a < 0) : c d b < 0 := by
  have n1 := h.neg d b
  have n2 := h.neg a b
  have n3 := h.neg d a
  by_cases e : c d b = 0
  · have := h.cg e (d := a) 
    by_cases k : c b a < 0
    · omega
    · have e2 : c b d = 0 := by have := h.neg b d; omega
      have := h.cg e2 (d := a) h1
      omega
  · by_cases k : c d b < 0
    · exact k
    · have k1 : c b d < 0 := by omega
      have k2 := h.tr k1 h1
      omega
theorem Cmp3.lex {α : Type} {c1 c2 : α → α → Int} (h1 : Cmp3 c1) (h2 : Cmp3 c2) : Cmp3 (fun a b => if c1 a b ≠ 0 then c1 a b else c2 a b) := by
  refine ⟨fun a b => ?_, fun {a b d} => ?_, fun {a b d} => ?_⟩
  · have n1 := h1.neg a b; have n2 := h2.neg a b
    repeat' split
    all_goals omega
  · intro k1 k2
    by_cases e1 : c1 a b = 0
    · by_cases e2 : c1 b d = 0
      · have e3 : c1 a d = 0 := by
          have n1 := h1.neg a d
          have n2 := h1.neg b d
          have n3 := h1.neg a b
          by_cases k : c1 a d < 0
          · have := h1.cg (a := b) (b := a) (d := d) (by omega) k; omega
          · by_cases k' : c1 d a < 0
            · have := h1.cg' (a := a) (b := b) (d := d) e1 k'; omega
            · omega
        rw [if_neg (by simpa using e1)] at k1
        rw [if_neg (by simpa using e2)] at k2
        rw [if_neg (by simpa using e3)]
        exact h2.tr k1 k2
      · rw [if_pos e2] at k2
        have := h1.cg e1 k2
        rw [if_pos (by omega)]; exact this
    · rw [if_pos e1] at k1
      by_cases e2 : c1 b d = 0
      · have := h1.cg' e2 k1
        rw [if_pos (by omega)]; exact this
      · rw [if_pos e2] at k2
        have := h1.tr k1 k2
        rw [if_pos (by omega)]; exact this
  · intro k1 k2
    by_cases e1 : c1 a b = 0
    · rw [if_neg (by simpa using e1)] at k1
      by_cases e2 : c1 b d = 0
      · have e3 : c1 a d = 0 := by
          have n1 := h1.neg a d
          have n2 := h1.neg b d
          have n3 := h1.neg a b
          by_cases k : c1 a d < 0
          · have := h1.cg (a := b) (b := a) (d := d) (by omega) k; omega
          · by_cases k' : c1 d a < 0
            · have := h1.cg' (a := a) (b := b) (d := d) e1 k'; omega
            · omega
        rw [if_neg (by simpa using e2)] at k2
        rw [if_neg (by simpa using e3)]
        exact h2.cg k1 k2
      · rw [if_pos e2] at k2
        have := h1.cg e1 k2
        rw [if_pos (by omega)]; exact this
    · rw [if_pos e1] at k1; exact absurd k1 e1
theorem Cmp3.on {α β : Type} {c : α → α → Int} (h : Cmp3 c) (f : β → α) : Cmp3 (fun a b => c (f a) (f b)) :=
  ⟨fun a b => h.neg _ _, fun h1 h2 => h.tr h1 h2, fun h1 h2 => h.cg h1 h2⟩
theorem cmpI_3 : Cmp3 cmpI := by
  refine ⟨fun a b => ?_, fun {a b d} => ?_, fun {a b d} => ?_⟩ <;> unfold cmpI <;> repeat' split
  all_goals omega
theorem cmpB_tr : ∀ {a b c : List UInt8}, Lib.compareBytes a b < 0 → Lib.compareBytes b c < 0 → Lib.compareBytes a c < 0
  | [], [], c, h1, h2 => by simp [Lib.compareBytes] at h1
  | [], _ :: _, [], h1, h2 => by simp [Lib.compareBytes] at h2
  | [], _ :: _, _ :: _, h1, h2 => by simp [Lib.compareBytes]
  | _ :: _, [], c, h1, h2 => by simp [Lib.compareBytes] at h1
  | _ :: _, _ :: _, [], h1, h2 => by simp [Lib.compareBytes] at h2
  | a :: la, b :: lb, c :: lc, h1, h2 => by
    simp only [Lib.compareBytes] at h1 h2 ⊢
    rcases u8_tri a b with h | h | h
    · rcases u8_tri b c with k | k | k
      · rw [if_pos (UInt8.lt_trans h k)]; omega
      · subst k; rw [if_pos h]; omega
      · rw [if_neg (u8_asymm k), if_pos k] at h2; omega
    · subst h
      rcases u8_tri a c with k | k | k
      · rw [if_pos k]; omega
      · subst k
        rw [if_neg (by simp), if_neg (by simp)] at h1 h2 ⊢
        exact cmpB_tr h1 h2
      · rw [if_neg (u8_asymm k), if_pos k] at h2; omega
    · rw [if_neg (u8_asymm h), if_pos h] at h1; omega
theorem cmpB_3 : Cmp3 Lib.compareBytes := ⟨cmpB_neg, cmpB_tr, fun h1 h2 => by rw [cmpB_zero h1]; exact h2⟩
theorem Cmp3.ord {α : Type} {c : α → α → Int} (h : Cmp3 c) (xs : List α) : Ord3 c xs := by
  refine ⟨fun x _ k => ?_, fun x _ y _ z _ h1 h2 => h.tr h1 h2, fun x _ y _ z _ h1 h2 h3 => ?_⟩
  · have := h.zero x; omega
  · have n1 := h.neg x y
    have n2 := h.neg y z
    by_cases h4 : c x y = 0
    · have h5 : c y x = 0 := by omega
      exact h2 (h.cg h5 h3)
    · have : c y x < 0 := by omega
      exact h2 (h.tr this h3)

/-! checks of a list, element by element, each with the one before it -/
def prevOf {α : Type} (xs : List α) (i : Int) : Option α := if i ≤ 0 then none else idx xs (i - 1)
theorem inset {α : Type} {B : α → Prop} {xs : List α} {i : Nat} {y : α} (h : ∀ x ∈ xs, B x) (hy : B y) : ∀ x ∈ xs.set i y, B x := by
  intro x hx
  rcases List.mem_or_eq_of_mem_set hx with h1 | h1
  · exact h x h1
  · rw [h1]; exact hy
theorem len_ok {α : Type} {n : Nat} {m : Option (List α)} {Z : List α} (h : m = some Z) (hl : Z.length = n) : lenOk n (fun r : List α => r.length) m = some Z := by
  rw [h]; unfold lenOk
  simp only [Option.bind_some]
  rw [if_pos hl]
end Go.Beacon

/- Plain maps (sorted lists of pairs) by look-ups; loops over maps in any order. No program in sight. -/
set_option linter.unusedVariables false
set_option linter.unusedSimpArgs false
set_option linter.unusedSectionVars false
namespace Go.Beacon
open Go Go.Eng

/-- A strict order of keys, as it must be. -/
class LKey (K : Type) [KLt K] : Prop where
  irr : ∀ a : K, KLt.lt a a = false
  tr : ∀ {a b c : K}, KLt.lt a b = true → KLt.lt b c = true → KLt.lt a c = true
  tri : ∀ a b : K, KLt.lt a b = true ∨ a = b ∨ KLt.lt b a = true
instance : LKey Int where
  irr a := by show decide (a < a) = false; simp
  tr {a b c} h1 h2 := by
    have h1 : decide (a < b) = true := h1
    have h2 : decide (b < c) = true := h2
    show decide (a < c) = true
    simp only [decide_eq_true_eq] at *; omega
  tri a b := by
    show decide (a < b) = true ∨ a = b ∨ decide (b < a) = true
    simp only [decide_eq_true_eq]; omega
instance : LKey Bool where
  irr a := by cases a <;> rfl
  tr {a b c} h1 h2 := by revert h1 h2; cases a <;> cases b <;> cases c <;> decide
  tri a b := by cases a <;> cases b <;> decide
instance : LKey (List UInt8) where
  irr a := by
    show Op.bytesLess a a = false
    rw [less_iff, cmpB_self]; rfl
  tr {a b c} h1 h2 := by
    have h1 : Op.bytesLess a b = true := h1
    have h2 : Op.bytesLess b c = true := h2
    show Op.bytesLess a c = true
    rw [less_iff, decide_eq_true_eq] at *
    exact cmpB_3.tr h1 h2
  tri a b := by
    show Op.bytesLess a b = true ∨ a = b ∨ Op.bytesLess b a = true
    rw [less_iff, less_iff, decide_eq_true_eq, decide_eq_true_eq]
    rcases Int.lt_trichotomy (Lib.compareBytes a b) 0 with h | h | h
    · exact .inl h
    · exact .inr (.inl (cmpB_zero h))
    · exact .inr (.inr (by have := cmpB_3.neg a b; omega))
section
variable {K V : Type} [DecidableEq K]
theorem mget_nil (k : K) : mget? ([] : List (K × V)) k = none := rfl
theorem mget_cons (e : K × V) (m : List (K × V)) (k : K) : mget? (e :: m) k = if e.1 = k then some e.2 else mget? m k := rfl
theorem mget_mdel (m : List (K × V)) (k k' : K) : mget? (mdel m k) k' = if k = k' then none else mget? m k' := by
  induction m with
  | nil => simp [mdel, mget?]
  | cons e r ih =>
    unfold mdel at ih ⊢
    rw [List.filter_cons]
    by_cases h : e.1 = k
    · rw [if_neg (by simp [h]), ih, mget_cons]
      by_cases h2 : k = k'
      · rw [if_pos h2, if_pos h2]
      · rw [if_neg h2, if_neg h2, if_neg (by rw [h]; exact h2)]
    · rw [if_pos (by simp [h]), mget_cons, ih, mget_cons]
      by_cases h2 : k = k'
      · rw [if_pos h2, if_pos h2, if_neg (by rw [← h2]; exact h)]
      · rw [if_neg h2, if_neg h2]
variable [KLt K]
theorem mget_mins (k : K) (v : V) (k' : K) : ∀ (m : List (K × V)), mget? m k = none → mget? (mins k v m) k' = if k = k' then some v else mget? m k'
  | [], _ => by simp [mins, mget?]
  | e :: r, h => by
    rw [mget_cons] at h
    have h1 : e.1 ≠ k := fun he => by rw [if_pos he] at h; cases h
    rw [if_neg h1] at h
    unfold mins
    split
    · rw [mget_cons, mget_mins k v k' r h, mget_cons]
      by_cases h2 : k = k'
      · rw [if_pos h2, if_pos h2, if_neg (by rw [← h2]; exact h1)]
      · rw [if_neg h2, if_neg h2]
    · rw [mget_cons]
theorem mget_mset (m : List (K × V)) (k : K) (v : V) (k' : K) : mget? (mset m k v) k' = if k = k' then some v else mget? m k' := by
  unfold mset
  rw [mget_mins k v k' _ (by rw [mget_mdel, if_pos rfl]), mget_mdel]
  by_cases h : k = k'
  · rw [if_pos h, if_pos h]
  · rw [if_neg h, if_neg h, if_neg h]
/-- Sorted by keys. -/
def SM (m : List (K × V)) : Prop := m.Pairwise (fun a b => KLt.lt a.1 b.1 = true)
theorem SM.nil : SM ([] : List (K × V)) := List.Pairwise.nil
theorem SM.del {m : List (K × V)} (h : SM m) (k : K) : SM (mdel m k) := List.Pairwise.filter _ h
theorem mdel_len (m : List (K × V)) (k : K) : (mdel m k).length ≤ m.length := List.length_filter_le _ _
variable [LKey K]
theorem SM.ne {m : List (K × V)} (h : SM m) : m.Pairwise (fun a b => a.1 ≠ b.1) :=
  List.Pairwise.imp (fun {a b} h e => by rw [e, LKey.irr] at h; cases h) h
theorem SM.nodup {m : List (K × V)} (h : SM m) : (m.map Prod.fst).Nodup := by
  unfold List.Nodup
  rw [List.pairwise_map]
  exact SM.ne h
theorem mins_SM (k : K) (v : V) : ∀ {m : List (K × V)}, SM m → mget? m k = none → SM (mins k v m)
  | [], _, _ => by unfold mins SM; simp
  | e :: r, h, hn => by
    have h' := List.pairwise_cons.1 h
    rw [mget_cons] at hn
    have h1 : e.1 ≠ k := fun he => by rw [if_pos he] at hn; cases hn
    rw [if_neg h1] at hn
    unfold mins
    split
    · rename_i hlt
      refine List.pairwise_cons.2 ⟨fun z hz => ?_, mins_SM k v h'.2 hn⟩
      rcases List.mem_cons.1 ((mins_perm k v r).mem_iff.1 hz) with rfl | hz
      · exact hlt
      · exact h'.1 z hz
    · rename_i hlt
      have hke : KLt.lt k e.1 = true := by
        rcases LKey.tri k e.1 with h | h | h
        · exact h
        · exact absurd h.symm h1
        · exact absurd h hlt
      refine List.pairwise_cons.2 ⟨fun z hz => ?_, h⟩
      rcases List.mem_cons.1 hz with rfl | hz
      · exact hke
      · exact LKey.tr hke (h'.1 z hz)
theorem SM.set {m : List (K × V)} (h : SM m) (k : K) (v : V) : SM (mset m k v) :=
  mins_SM k v (h.del k) (by rw [mget_mdel, if_pos rfl])
theorem SM.get_iff {m : List (K × V)} (h : SM m) {k : K} {v : V} : mget? m k = some v ↔ (k, v) ∈ m :=
  ⟨mget_mem, mget_of_mem h.nodup⟩
theorem SM.none_lt {e : K × V} {m : List (K × V)} (h : SM (e :: m)) {k : K} (hk : KLt.lt k e.1 = true) : mget? (e :: m) k = none := by
  rw [mget_none]
  intro z hz he
  have h' := List.pairwise_cons.1 h
  have hkz : KLt.lt k z.1 = true := by
    rcases List.mem_cons.1 hz with rfl | hz
    · exact hk
    · exact LKey.tr hk (h'.1 z hz)
  rw [he, LKey.irr] at hkz; cases hkz
theorem map_ext : ∀ {m m' : List (K × V)}, SM m → SM m' → (∀ k, mget? m k = mget? m' k) → m = m'
  | [], [], _, _, _ => rfl
  | [], y :: B, _, _, h => by have := h y.1; rw [mget_nil, mget_cons, if_pos rfl] at this; cases this
  | x :: A, [], _, _, h => by have := h x.1; rw [mget_nil, mget_cons, if_pos rfl] at this; cases this
  | x :: A, y :: B, h1, h2, h => by
    have h1' := List.pairwise_cons.1 h1
    have h2' := List.pairwise_cons.1 h2
    have hxy : x.1 = y.1 := by
      rcases LKey.tri x.1 y.1 with c | c | c
      · have e := h x.1
        rw [mget_cons, if_pos rfl, h2.none_lt c] at e; cases e
      · exact c
      · have e := h y.1
        rw [mget_cons y, if_pos rfl, h1.none_lt c] at e; cases e
    have e := h x.1
    rw [mget_cons, if_pos rfl, mget_cons, if_pos hxy.symm] at e
    have hx : x = y := Prod.ext hxy (Option.some.inj e)
    subst hx
    rw [map_ext h1'.2 h2'.2 (fun k => ?_)]
    have := h k
    rw [mget_cons, mget_cons] at this
    by_cases hk : x.1 = k
    · subst hk
      have a1 : mget? A x.1 = none := mget_none.2 fun z hz he => by have := h1'.1 z hz; rw [he, LKey.irr] at this; cases this
      have a2 : mget? B x.1 = none := mget_none.2 fun z hz he => by have := h2'.1 z hz; rw [he, LKey.irr] at this; cases this
      rw [a1, a2]
    · rw [if_neg hk, if_neg hk] at this; exact this
theorem mins_len (k : K) (v : V) (m : List (K × V)) : (mins k v m).length = m.length + 1 := by
  have := (mins_perm k v m).length_eq; simpa using this
theorem mset_len (m : List (K × V)) (k : K) (v : V) : (mset m k v).length ≤ m.length + 1 := by
  unfold mset; rw [mins_len]; have := mdel_len m k; omega
end
/-! loops over all orders -/
section
variable {E S A : Type}
/-- A loop over a map, whatever the order: what holds of the elements behind and of the state. -/
theorem loopL_inv (b : E → S → Option (S ⊕ A)) (f : S → Option A) (es : List E) (r : A) (Inv : List E → S → Prop)
    (hs : ∀ done e rest s, (done ++ e :: rest).Perm es → Inv done s → (∃ s', b e s = some (.inl s') ∧ Inv (done ++ [e]) s') ∨ b e s = some (.inr r))
    (hf : ∀ p s, p.Perm es → Inv p s → f s = some r) : ∀ (rest done : List E) (s : S), (done ++ rest).Perm es → Inv done s → loopL b f rest s = some r
  | [], done, s, hp, hi => hf done s (by simpa using hp) hi
  | e :: rest, done, s, hp, hi => by
    show (b e s).bind (after (loopL b f rest)) = some r
    rcases hs done e rest s hp hi with ⟨s', h1, h2⟩ | h1
    · rw [h1]
      simp only [Option.bind_some, after_inl]
      exact loopL_inv b f es r Inv hs hf rest (done ++ [e]) s' (by simpa using hp) h2
    · rw [h1]; rfl
theorem overP_inv (b : E → S → Option (S ⊕ A)) (f : S → Option A) (es : List E) (s0 : S) (r : A) (Inv : List E → S → Prop) (h0 : Inv [] s0)
    (hs : ∀ done e rest s, (done ++ e :: rest).Perm es → Inv done s → (∃ s', b e s = some (.inl s') ∧ Inv (done ++ [e]) s') ∨ b e s = some (.inr r))
    (hf : ∀ p s, p.Perm es → Inv p s → f s = some r) : overP es (fun p => loopL b f p s0) = some r :=
  overP_of fun p hp => loopL_inv b f es r Inv hs hf p [] s0 (by simpa using hp) h0
end
end Go.Beacon

