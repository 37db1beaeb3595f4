/- Plain facts of compacting, deleting and joining lists of anything. No program in sight. -/
import Derived.Test.YtmlgacejioccmaaGreatDoorPsrt
set_option linter.unusedVariables false
set_option linter.unusedSimpArgs false
namespace Go.Beacon
open Go Go.Eng

/-! slices.CompactFunc -/
def gCptF_j1 {α : Type} (n12 : Int) (l16 : List α) (n17 : Int) : Option (((List α) × Int × Int) ⊕ (Int ⊕ (List α))) :=
  some (.inl (l16, n17, w64 (n12 + (1 : Int))))
def gCptF_k2 {α : Type} (Z : α) (l10 : List α) (n11 : Int) : Option (Int ⊕ (List α)) :=
  (slc l10 n11 (l10.length : Int)).bind fun l20 =>
  (slc (clr l10 n11 l20.length Z) (0 : Int) n11).bind fun l21 =>
  Option.map .inr (some l21)
def gCptF_b2 {α : Type} (Z : α) (fnb : α → α → Option Bool) (n2 : Int) (l6 : List α) (l10 : List α) (n11 : Int) (n12 : Int) : Option (((List α) × Int × Int) ⊕ (Int ⊕ (List α))) :=
  if n12 < (l6.length : Int) then
    (idxS l10 n2 l6.length n12).bind fun v13 =>
    (idxS l10 n2 l6.length (w64 (n12 - (1 : Int)))).bind fun v14 =>
    (fnb v13 v14).bind fun v15 =>
    if (!v15) = true then
      (idxS l10 n2 l6.length n12).bind fun v18 =>
      (idx l10 n11).bind fun v19 =>
      gCptF_j1 n12 (l10.set n11.toNat v18) (w64 (n11 + (1 : Int)))
    else
      gCptF_j1 n12 l10 n11
  else
    Option.map .inr (gCptF_k2 Z l10 n11)
noncomputable def gCptF_l2 {α : Type} (Z : α) (fnb : α → α → Option Bool) (n2 : Int) (l6 : List α) (l10 : List α) (n11 : Int) (n12 : Int) : Option (Int ⊕ (List α)) :=
  iter (fun x : (List α) × Int × Int => gCptF_b2 Z fnb n2 l6 x.1 x.2.1 x.2.2) (l10, n11, n12)
noncomputable def gCptF_b1 {α : Type} (Z : α) (p0x0 : List α) (fnb : α → α → Option Bool) (n2 : Int) : Option (Int ⊕ (List α)) :=
  if n2 < (p0x0.length : Int) then
    (idx p0x0 n2).bind fun v3 =>
    (idx p0x0 (w64 (n2 - (1 : Int)))).bind fun v4 =>
    (fnb v3 v4).bind fun v5 =>
    if v5 = true then
      (slc p0x0 n2 (p0x0.length : Int)).bind fun l6 =>
      gCptF_l2 Z fnb n2 l6 p0x0 n2 (1 : Int)
    else
      some (.inl (w64 (n2 + (1 : Int))))
  else
    Option.map .inr (some p0x0)
noncomputable def gCptF_l1 {α : Type} (Z : α) (p0x0 : List α) (fnb : α → α → Option Bool) (n2 : Int) : Option (List α) :=
  iter (fun x : Int => gCptF_b1 Z p0x0 fnb x) n2
noncomputable def gCptF {α : Type} (Z : α) (p0x0 : List α) (fnb : α → α → Option Bool) : Option (List α) :=
  if (p0x0.length : Int) < (2 : Int) then
    some p0x0
  else
    gCptF_l1 Z p0x0 fnb (1 : Int)
/-- Without what is like the one ahead of it. -/
def ddA {α : Type} (e : α → α → Bool) : α → List α → List α
  | _, [] => []
  | p, y :: r => if e y p = true then ddA e y r else y :: ddA e y r
def dd {α : Type} (e : α → α → Bool) : List α → List α
  | [] => []
  | x :: r => x :: ddA e x r
theorem ddA_snoc {α : Type} (e : α → α → Bool) : ∀ (p : α) (ys : List α) (y z : α), ddA e p (ys ++ [y, z]) = if e z y = true then ddA e p (ys ++ [y]) else ddA e p (ys ++ [y]) ++ [z]
  | p, [], y, z => by
    simp only [List.nil_append, ddA]
    by_cases h1 : e y p = true <;> by_cases h2 : e z y = true <;> simp [h1, h2]
  | p, w :: ys, y, z => by
    simp only [List.cons_append, ddA, ddA_snoc e w ys y z]
    by_cases h1 : e w p = true <;> by_cases h2 : e z y = true <;> simp [h1, h2]
theorem dd_snoc {α : Type} (e : α → α → Bool) (ys : List α) (y z : α) : dd e (ys ++ [y, z]) = if e z y = true then dd e (ys ++ [y]) else dd e (ys ++ [y]) ++ [z] := by
  cases ys with
  | nil =>
    simp only [List.nil_append, dd, ddA]
    by_cases h2 : e z y = true <;> simp [h2]
  | cons w ys =>
    simp only [List.cons_append, dd, ddA_snoc e w ys y z]
    by_cases h2 : e z y = true <;> simp [h2]
theorem take_two {α : Type} {xs : List α} {m : Nat} (h1 : 1 ≤ m) (h2 : m < xs.length) : xs.take (m + 1) = xs.take (m - 1) ++ [xs[m - 1], xs[m]] ∧ xs.take m = xs.take (m - 1) ++ [xs[m - 1]] := by
  have a : xs.take m = xs.take (m - 1) ++ [xs[m - 1]] := by
    have := List.take_append_getElem (l := xs) (i := m - 1) (by omega)
    rw [show m - 1 + 1 = m by omega] at this
    exact this.symm
  refine ⟨?_, a⟩
  have := List.take_append_getElem (l := xs) (i := m) h2
  rw [← this, a, List.append_assoc]; rfl
theorem dd_take {α : Type} (e : α → α → Bool) {xs : List α} {m : Nat} (h1 : 1 ≤ m) (h2 : m < xs.length) : dd e (xs.take (m + 1)) = if e xs[m] xs[m - 1] = true then dd e (xs.take m) else dd e (xs.take m) ++ [xs[m]] := by
  obtain ⟨a, b⟩ := take_two h1 h2
  rw [a, b]; exact dd_snoc e _ _ _
theorem ddA_len {α : Type} (e : α → α → Bool) : ∀ (p : α) (r : List α), (ddA e p r).length ≤ r.length
  | _, [] => by simp [ddA]
  | p, y :: r => by
    have := ddA_len e y r
    simp only [ddA]
    split <;> simp <;> omega
theorem dd_len {α : Type} (e : α → α → Bool) (xs : List α) : (dd e xs).length ≤ xs.length := by
  cases xs with
  | nil => simp [dd]
  | cons x r => have := ddA_len e x r; simp [dd]; omega
theorem ddA_sub {α : Type} (e : α → α → Bool) : ∀ (p : α) (r : List α), (ddA e p r).Sublist r
  | _, [] => by simp [ddA]
  | p, y :: r => by
    simp only [ddA]
    split
    · exact (ddA_sub e y r).cons y
    · exact (ddA_sub e y r).cons_cons y
theorem dd_sub {α : Type} (e : α → α → Bool) (xs : List α) : (dd e xs).Sublist xs := by
  cases xs with
  | nil => simp [dd]
  | cons x r => exact (ddA_sub e x r).cons_cons x
theorem get_idx {α : Type} {xs : List α} {i : Int} (h0 : 0 ≤ i) (h1 : i.toNat < xs.length) : idx xs i = some xs[i.toNat] := by
  unfold idx; rw [if_pos h0]; simp [h1]
theorem cut_k2 {α : Type} (Z : α) (l : List α) {k : Int} (h0 : 0 ≤ k) (h1 : k ≤ l.length) : gCptF_k2 Z l k = some (.inr (l.take k.toNat)) := by
  unfold gCptF_k2
  rw [slc_in h0 h1 (by omega)]
  simp only [Option.bind_some]
  have hlen : (((l.drop k.toNat).take (((l.length : Int)).toNat - k.toNat)).length) = l.length - k.toNat := by simp
  rw [hlen, slc_in (by omega) h0 (by unfold clr; simp; omega)]
  simp only [Option.bind_some, Option.map_some, Option.some.injEq, Sum.inr.injEq]
  unfold clr
  simp only [Int.toNat_zero, List.drop_zero, Nat.sub_zero]
  rw [List.append_assoc, List.take_append_of_le_length (by simp; omega), List.take_take]
  congr 1; omega
theorem cpt_inner {α : Type} (Z : α) (fnb : α → α → Option Bool) (e : α → α → Bool) (xs : List α) (hl : (xs.length : Int) ≤ 100000) (hf : ∀ x ∈ xs, ∀ y ∈ xs, fnb x y = some (e x y)) (k0 : Int) (h0 : 1 ≤ k0) (h1 : k0 < xs.length) (l6 : List α) (hl6 : (l6.length : Int) = xs.length - k0) : ∀ (n : Nat) (l : List α) (k k2 : Int), 1 ≤ k2 → k2 + n = l6.length → l.length = xs.length → 0 ≤ k → k ≤ k0 + k2 - 1 →
    l.drop (k0 + k2 - 1).toNat = xs.drop (k0 + k2 - 1).toNat → l.take k.toNat = dd e (xs.take (k0 + k2).toNat) → gCptF_l2 Z fnb k0 l6 l k k2 = some (.inr (dd e xs)) := by
  intro n
  induction n with
  | zero =>
    intro l k k2 g1 g2 g3 g4 g5 g6 g7
    unfold gCptF_l2
    rw [iter_eq, gCptF_b2, if_neg (by simp only; omega), map_inr_after, cut_k2 Z l g4 (by omega), g7, List.take_of_length_le (by omega)]
  | succ n ih =>
    intro l k k2 g1 g2 g3 g4 g5 g6 g7
    have w1 : w64 (k2 + 1) = k2 + 1 := by rw [w64_in] <;> omega
    have w2 : w64 (k2 - 1) = k2 - 1 := by rw [w64_in] <;> omega
    have w3 : w64 (k + 1) = k + 1 := by rw [w64_in] <;> omega
    have hgl : ∀ m : Nat, (k0 + k2 - 1).toNat ≤ m → l[m]? = xs[m]? := by
      intro m hm
      have := congrArg (fun q : List α => q[m - (k0 + k2 - 1).toNat]?) g6
      simp only [List.getElem?_drop] at this
      rw [show (k0 + k2 - 1).toNat + (m - (k0 + k2 - 1).toNat) = m by omega] at this
      exact this
    have hm1 : (k0 + k2).toNat < xs.length := by omega
    have e1 : idxS l k0 l6.length k2 = some xs[(k0 + k2).toNat] := by
      unfold idxS
      rw [if_pos ⟨by omega, by omega, by omega⟩]
      unfold idx
      rw [if_pos (by omega), hgl _ (by omega)]; simp [hm1]
    have e2 : idxS l k0 l6.length (k2 - 1) = some xs[(k0 + k2).toNat - 1] := by
      unfold idxS
      rw [if_pos ⟨by omega, by omega, by omega⟩]
      unfold idx
      rw [if_pos (by omega), hgl _ (by omega), show (k0 + (k2 - 1)).toNat = (k0 + k2).toNat - 1 by omega, List.getElem?_eq_getElem (by omega)]
    have hdd := dd_take e (xs := xs) (m := (k0 + k2).toNat) (by omega) hm1
    rw [show (k0 + k2).toNat + 1 = (k0 + (k2 + 1)).toNat by omega] at hdd
    unfold gCptF_l2 at ih ⊢
    rw [iter_eq, gCptF_b2, if_pos (by simp only; omega)]
    simp only [w2, e1, e2, Option.bind_some, hf _ (List.getElem_mem hm1) _ (List.getElem_mem (show (k0 + k2).toNat - 1 < xs.length by omega))]
    unfold gCptF_j1
    rw [w1]
    by_cases hc : e xs[(k0 + k2).toNat] xs[(k0 + k2).toNat - 1] = true
    · rw [if_pos hc] at hdd
      rw [hc, if_neg (by simp)]
      simp only [Option.bind_some, after_inl]
      refine ih l k (k2 + 1) (by omega) (by omega) g3 g4 (by omega) ?_ (by rw [g7, hdd])
      have := congrArg (List.drop 1) g6
      rw [List.drop_drop, List.drop_drop, show (k0 + k2 - 1).toNat + 1 = (k0 + (k2 + 1) - 1).toNat by omega] at this
      exact this
    · rw [if_neg hc] at hdd
      rw [Bool.not_eq_true] at hc
      rw [hc, if_pos (by simp)]
      obtain ⟨y, hy, _, _⟩ := idx_lt l (i := k) g4 (by omega)
      simp only [hy, Option.bind_some, after_inl, w3]
      refine ih (l.set k.toNat _) (k + 1) (k2 + 1) (by omega) (by omega) (by simpa using g3) (by omega) (by omega) ?_ ?_
      · apply List.ext_getElem?
        intro m
        rw [List.getElem?_drop, List.getElem?_drop, List.getElem?_set_ne (by omega), hgl _ (by omega)]
      · rw [hdd, ← g7, show (k + 1).toNat = k.toNat + 1 by omega]
        apply List.ext_getElem?
        intro m
        have hkl : k.toNat < l.length := by omega
        by_cases hm : m < k.toNat
        · rw [List.getElem?_take, if_pos (by omega), List.getElem?_set_ne (by omega), List.getElem?_append_left (by simp; omega), List.getElem?_take, if_pos hm]
        · by_cases hm2 : m = k.toNat
          · subst hm2
            rw [List.getElem?_take, if_pos (by omega), List.getElem?_set_self hkl, List.getElem?_append_right (by simp only [List.length_take]; omega)]
            simp [Nat.min_eq_left (Nat.le_of_lt hkl)]
          · rw [List.getElem?_eq_none (by simp; omega), List.getElem?_eq_none (by simp; omega)]
theorem gCptF_eq {α : Type} (Z : α) (fnb : α → α → Option Bool) (e : α → α → Bool) (xs : List α) (hl : (xs.length : Int) ≤ 100000) (hf : ∀ x ∈ xs, ∀ y ∈ xs, fnb x y = some (e x y)) : gCptF Z xs fnb = some (dd e xs) := by
  unfold gCptF
  by_cases h2 : (xs.length : Int) < 2
  · rw [if_pos h2]
    cases xs with
    | nil => rfl
    | cons x r =>
      cases r with
      | nil => rfl
      | cons y r => simp only [List.length_cons] at h2; omega
  · rw [if_neg h2]
    have key : ∀ (n : Nat) (i : Int), 1 ≤ i → i + n = xs.length → dd e (xs.take i.toNat) = xs.take i.toNat → gCptF_l1 Z xs fnb i = some (dd e xs) := by
      intro n
      induction n with
      | zero =>
        intro i h0 h1 hd
        unfold gCptF_l1
        rw [iter_eq, gCptF_b1, if_neg (by omega), map_inr_after]
        rw [List.take_of_length_le (by omega)] at hd
        rw [hd]
      | succ n ih =>
        intro i h0 h1 hd
        have w1 : w64 (i + 1) = i + 1 := by rw [w64_in] <;> omega
        have w2 : w64 (i - 1) = i - 1 := by rw [w64_in] <;> omega
        have hm : i.toNat < xs.length := by omega
        have e1 := get_idx (xs := xs) (i := i) (by omega) hm
        have e2 : idx xs (i - 1) = some xs[i.toNat - 1] := by
          unfold idx
          rw [if_pos (by omega), show (i - 1).toNat = i.toNat - 1 by omega, List.getElem?_eq_getElem (by omega)]
        have hdd := dd_take e (xs := xs) (m := i.toNat) (by omega) hm
        rw [show i.toNat + 1 = (i + 1).toNat by omega] at hdd
        unfold gCptF_l1 at ih ⊢
        rw [iter_eq, gCptF_b1, if_pos (by omega)]
        simp only [w2, e1, e2, Option.bind_some, hf _ (List.getElem_mem hm) _ (List.getElem_mem (show i.toNat - 1 < xs.length by omega))]
        by_cases hc : e xs[i.toNat] xs[i.toNat - 1] = true
        · rw [if_pos hc] at hdd
          rw [hc, if_pos rfl, slc_in (by omega) (by omega) (by omega)]
          simp only [Option.bind_some]
          have hlen : ((((xs.drop i.toNat).take (((xs.length : Int)).toNat - i.toNat)).length : Nat) : Int) = xs.length - i := by simp; omega
          rw [cpt_inner Z fnb e xs hl hf i h0 (by omega) _ hlen n xs i 1 (by omega) (by rw [hlen]; omega) rfl (by omega) (by omega) rfl (by rw [hdd, hd])]
          rfl
        · rw [if_neg hc] at hdd
          rw [Bool.not_eq_true] at hc
          rw [hc, if_neg (by simp), w1]
          simp only [Option.bind_some, after_inl]
          refine ih (i + 1) (by omega) (by omega) ?_
          rw [hdd, hd]
          have := List.take_append_getElem (l := xs) (i := i.toNat) hm
          rw [this, show i.toNat + 1 = (i + 1).toNat by omega]
    refine key (xs.length - 1) 1 (by omega) (by omega) ?_
    cases xs with
    | nil => simp at h2
    | cons x r => rfl

/-! slices.Compact -/
def gCpt_b2 {α : Type} [DecidableEq α] (Z : α) (n2 : Int) (l5 : List α) (l9 : List α) (n10 : Int) (n11 : Int) : Option (((List α) × Int × Int) ⊕ (Int ⊕ (List α))) :=
  if n11 < (l5.length : Int) then
    (idxS l9 n2 l5.length n11).bind fun v12 =>
    (idxS l9 n2 l5.length (w64 (n11 - (1 : Int)))).bind fun v13 =>
    if v12 ≠ v13 then
      (idxS l9 n2 l5.length n11).bind fun v16 =>
      (idx l9 n10).bind fun v17 =>
      gCptF_j1 n11 (l9.set n10.toNat v16) (w64 (n10 + (1 : Int)))
    else
      gCptF_j1 n11 l9 n10
  else
    Option.map .inr (gCptF_k2 Z l9 n10)
noncomputable def gCpt_l2 {α : Type} [DecidableEq α] (Z : α) (n2 : Int) (l5 : List α) (l9 : List α) (n10 : Int) (n11 : Int) : Option (Int ⊕ (List α)) :=
  iter (fun x : (List α) × Int × Int => gCpt_b2 Z n2 l5 x.1 x.2.1 x.2.2) (l9, n10, n11)
noncomputable def gCpt_b1 {α : Type} [DecidableEq α] (Z : α) (p0x0 : List α) (n2 : Int) : Option (Int ⊕ (List α)) :=
  if n2 < (p0x0.length : Int) then
    (idx p0x0 n2).bind fun v3 =>
    (idx p0x0 (w64 (n2 - (1 : Int)))).bind fun v4 =>
    if v3 = v4 then
      (slc p0x0 n2 (p0x0.length : Int)).bind fun l5 =>
      gCpt_l2 Z n2 l5 p0x0 n2 (1 : Int)
    else
      some (.inl (w64 (n2 + (1 : Int))))
  else
    Option.map .inr (some p0x0)
noncomputable def gCpt {α : Type} [DecidableEq α] (Z : α) (p0x0 : List α) : Option (List α) :=
  if (p0x0.length : Int) < (2 : Int) then
    some p0x0
  else
    iter (fun x : Int => gCpt_b1 Z p0x0 x) (1 : Int)
def eqB {α : Type} [DecidableEq α] (a b : α) : Bool := decide (a = b)
theorem gCpt_b2_eq {α : Type} [DecidableEq α] (Z : α) (n2 : Int) (l5 l9 : List α) (n10 n11 : Int) : gCpt_b2 Z n2 l5 l9 n10 n11 = gCptF_b2 Z (fun a b => some (eqB a b)) n2 l5 l9 n10 n11 := by
  unfold gCpt_b2 gCptF_b2
  congr 1
  congr 1; funext v12
  congr 1; funext v13
  simp only [Option.bind_some, eqB]
  by_cases h : v12 = v13 <;> simp [h]
theorem gCpt_eq {α : Type} [DecidableEq α] (Z : α) (xs : List α) (hl : (xs.length : Int) ≤ 100000) : gCpt Z xs = some (dd eqB xs) := by
  rw [← gCptF_eq Z (fun a b => some (eqB a b)) eqB xs hl (fun x _ y _ => rfl)]
  unfold gCpt gCptF gCptF_l1
  congr 2
  funext i
  unfold gCpt_b1 gCptF_b1 gCpt_l2 gCptF_l2
  congr 1
  congr 1; funext v3
  congr 1; funext v4
  have : (fun x : (List α) × Int × Int => gCptF_b2 Z (fun a b => some (eqB a b)) i ((xs.drop 0)) x.1 x.2.1 x.2.2) = fun x => gCptF_b2 Z (fun a b => some (eqB a b)) i (xs.drop 0) x.1 x.2.1 x.2.2 := rfl
  simp only [Option.bind_some, gCpt_b2_eq]
  by_cases h : v3 = v4
  · simp [h, eqB]
  · simp [h, eqB]

/-! slices.DeleteFunc -/
def gDel_j1 {α : Type} (n7 : Int) (l11 : List α) (n12 : Int) : Option (((List α) × Int × Int) ⊕ (List α)) :=
  some (.inl (l11, n12, w64 (n7 + (1 : Int))))
def gDel_k2 {α : Type} (Z : α) (l5 : List α) (n6 : Int) : Option (List α) :=
  (slc l5 n6 (l5.length : Int)).bind fun l14 =>
  (slc (clr l5 n6 l14.length Z) (0 : Int) n6).bind fun l15 =>
  some l15
def gDel_b1 {α : Type} (Z : α) (fnb : α → Option Bool) (l5 : List α) (n6 : Int) (n7 : Int) : Option (((List α) × Int × Int) ⊕ (List α)) :=
  if n7 < (l5.length : Int) then
    (idx l5 n7).bind fun v8 =>
    (fnb v8).bind fun v10 =>
    if (!v10) = true then
      (idx l5 n6).bind fun v13 =>
      gDel_j1 n7 (l5.set n6.toNat v8) (w64 (n6 + (1 : Int)))
    else
      gDel_j1 n7 l5 n6
  else
    Option.map .inr (gDel_k2 Z l5 n6)
noncomputable def gDel {α : Type} (Z : α) (p0x0 : List α) (fnb : α → Option Bool) : Option (List α) :=
  (gIndexFunc p0x0 fnb).bind fun v1 =>
  if v1 = (-1 : Int) then
    some p0x0
  else
    iter (fun x : (List α) × Int × Int => gDel_b1 Z fnb x.1 x.2.1 x.2.2) (p0x0, v1, w64 (v1 + (1 : Int)))
theorem cut_del {α : Type} (Z : α) (l : List α) {k : Int} (h0 : 0 ≤ k) (h1 : k ≤ l.length) : gDel_k2 Z l k = some (l.take k.toNat) := by
  have := cut_k2 Z l h0 h1
  unfold gCptF_k2 at this
  unfold gDel_k2
  cases h : slc l k l.length with
  | none => rw [h] at this; simp at this
  | some v =>
    rw [h] at this
    simp only [Option.bind_some] at this ⊢
    cases h2 : slc (clr l k v.length Z) 0 k with
    | none => rw [h2] at this; simp at this
    | some u => rw [h2] at this; simpa using this
theorem filter_take {α : Type} (p : α → Bool) {xs : List α} {m : Nat} (h : m < xs.length) : (xs.take (m + 1)).filter p = if p xs[m] = true then (xs.take m).filter p ++ [xs[m]] else (xs.take m).filter p := by
  rw [← List.take_append_getElem h, List.filter_append]
  by_cases hp : p xs[m] = true <;> simp [hp]
theorem del_loop {α : Type} (Z : α) (fnb : α → Option Bool) (p : α → Bool) (xs : List α) (hl : (xs.length : Int) ≤ 100000) (hf : ∀ x ∈ xs, fnb x = some (p x)) : ∀ (n : Nat) (l : List α) (k j : Int), 1 ≤ j → j + n = xs.length → l.length = xs.length → 0 ≤ k → k < j → l.drop j.toNat = xs.drop j.toNat → l.take k.toNat = (xs.take j.toNat).filter (fun x => !p x) →
    iter (fun x : (List α) × Int × Int => gDel_b1 Z fnb x.1 x.2.1 x.2.2) (l, k, j) = some (xs.filter (fun x => !p x)) := by
  intro n
  induction n with
  | zero =>
    intro l k j g1 g2 g3 g4 g5 g6 g7
    rw [iter_eq, gDel_b1, if_neg (by simp only; omega), map_inr_after, cut_del Z l g4 (by omega), g7, List.take_of_length_le (by omega)]
  | succ n ih =>
    intro l k j g1 g2 g3 g4 g5 g6 g7
    have w1 : w64 (j + 1) = j + 1 := by rw [w64_in] <;> omega
    have w3 : w64 (k + 1) = k + 1 := by rw [w64_in] <;> omega
    have hm : j.toNat < xs.length := by omega
    have hgl : ∀ m : Nat, j.toNat ≤ m → l[m]? = xs[m]? := by
      intro m hm
      have := congrArg (fun q : List α => q[m - j.toNat]?) g6
      simp only [List.getElem?_drop] at this
      rw [show j.toNat + (m - j.toNat) = m by omega] at this
      exact this
    have e1 : idx l j = some xs[j.toNat] := by
      unfold idx; rw [if_pos (by omega), hgl _ (Nat.le_refl _)]; simp [hm]
    have hft := filter_take (fun x => !p x) hm
    rw [show j.toNat + 1 = (j + 1).toNat by omega] at hft
    have hdr : l.drop (j + 1).toNat = xs.drop (j + 1).toNat := by
      have := congrArg (List.drop 1) g6
      rw [List.drop_drop, List.drop_drop, show j.toNat + 1 = (j + 1).toNat by omega] at this
      exact this
    rw [iter_eq, gDel_b1, if_pos (by simp only; omega)]
    simp only [e1, Option.bind_some, hf _ (List.getElem_mem hm)]
    unfold gDel_j1
    rw [w1]
    cases hp : p xs[j.toNat] with
    | true =>
      rw [hp] at hft
      simp only [Bool.not_true, Bool.false_eq_true, if_false] at hft ⊢
      simp only [Option.bind_some, after_inl]
      exact ih l k (j + 1) (by omega) (by omega) g3 g4 (by omega) hdr (by rw [g7, hft])
    | false =>
      rw [hp] at hft
      simp only [Bool.not_false, if_true] at hft ⊢
      obtain ⟨y, hy, _, _⟩ := idx_lt l (i := k) g4 (by omega)
      simp only [hy, Option.bind_some, after_inl, w3]
      refine ih (l.set k.toNat _) (k + 1) (j + 1) (by omega) (by omega) (by simpa using g3) (by omega) (by omega) ?_ ?_
      · apply List.ext_getElem?
        intro m
        rw [List.getElem?_drop, List.getElem?_drop, List.getElem?_set_ne (by omega), hgl _ (by omega)]
      · rw [hft, ← g7, show (k + 1).toNat = k.toNat + 1 by omega]
        apply List.ext_getElem?
        intro m
        have hkl : k.toNat < l.length := by omega
        by_cases hm : m < k.toNat
        · rw [List.getElem?_take, if_pos (by omega), List.getElem?_set_ne (by omega), List.getElem?_append_left (by simp; omega), List.getElem?_take, if_pos hm]
        · by_cases hm2 : m = k.toNat
          · subst hm2
            rw [List.getElem?_take, if_pos (by omega), List.getElem?_set_self hkl, List.getElem?_append_right (by simp only [List.length_take]; omega)]
            simp [Nat.min_eq_left (Nat.le_of_lt hkl)]
          · rw [List.getElem?_eq_none (by simp; omega), List.getElem?_eq_none (by simp; omega)]
theorem findI_first {α : Type} (p : α → Bool) : ∀ (xs : List α) (i : Int), 0 ≤ i → (findI p xs i = -1 ∧ ∀ x ∈ xs, p x = false) ∨ (i ≤ findI p xs i ∧ findI p xs i < i + xs.length ∧ (∀ x ∈ xs.take (findI p xs i - i).toNat, p x = false) ∧ ∃ y, xs[(findI p xs i - i).toNat]? = some y ∧ p y = true)
  | [], i, h => .inl ⟨rfl, by simp⟩
  | x :: r, i, h => by
    by_cases hp : p x = true
    · have e : findI p (x :: r) i = i := by simp [findI, hp]
      rw [e]
      exact .inr ⟨by omega, by simp; omega, by simp, x, by simp, hp⟩
    · have e : findI p (x :: r) i = findI p r (i + 1) := by simp [findI, hp]
      rw [e]
      have hp' : p x = false := by simpa using hp
      rcases findI_first p r (i + 1) (by omega) with ⟨h1, h2⟩ | ⟨h1, h2, h3, y, h4, h5⟩
      · exact .inl ⟨h1, fun y hy => by rcases List.mem_cons.1 hy with rfl | hy; exact hp'; exact h2 y hy⟩
      · have e : (findI p r (i + 1) - i).toNat = (findI p r (i + 1) - (i + 1)).toNat + 1 := by omega
        refine .inr ⟨by omega, by simp; omega, ?_, y, ?_, h5⟩
        · rw [e]
          intro y hy
          rw [List.take_succ_cons] at hy
          rcases List.mem_cons.1 hy with rfl | hy
          · exact hp'
          · exact h3 y hy
        · rw [e, List.getElem?_cons_succ]; exact h4
theorem gDel_eq {α : Type} (Z : α) (fnb : α → Option Bool) (p : α → Bool) (xs : List α) (hl : (xs.length : Int) ≤ 100000) (hf : ∀ x ∈ xs, fnb x = some (p x)) : gDel Z xs fnb = some (xs.filter (fun x => !p x)) := by
  unfold gDel
  rw [gIndexFunc_eq xs fnb p hf (by omega)]
  simp only [Option.bind_some]
  rcases findI_first p xs 0 (by omega) with ⟨h1, h2⟩ | ⟨h1, h2, h3, y, h4, h5⟩
  · rw [if_pos h1]
    congr 1
    exact (List.filter_eq_self.2 (fun x hx => by simp [h2 x hx])).symm
  · generalize findI p xs 0 = v at *
    simp only [Int.sub_zero] at h3 h4 h5
    rw [if_neg (by omega), w64_in (by omega) (by omega)]
    refine del_loop Z fnb p xs hl hf (xs.length - (v + 1).toNat) xs v (v + 1) (by omega) (by omega) rfl h1 (by omega) rfl ?_
    obtain ⟨h4', h4''⟩ := List.getElem?_eq_some_iff.1 h4
    have hft := filter_take (fun x => !p x) h4'
    rw [show v.toNat + 1 = (v + 1).toNat by omega, h4''] at hft
    rw [hft, h5]
    simp only [Bool.not_true, Bool.false_eq_true, if_false]
    exact (List.filter_eq_self.2 (fun x hx => by simp [h3 x hx])).symm
end Go.Beacon
