/- Fences: CheckFence is FenceFault, where is WhereOf. No program in sight. -/
import Derived.Test.YtfplpihogacmaaaFmePplc
set_option linter.unusedVariables false
set_option linter.unusedSimpArgs false
namespace Go.Beacon
open Go Go.Eng

theorem Contains_eq (l : List Spot) (v : Spot) (hl : l.length ≤ 100000) : slices_Contains_Spot_Spot l v = some (decide (v ∈ l)) := by
  have key := iter_first (fun x : Int => slices_Index_Spot_Spot_b1 l v x) (fun i => if l[i]? = some v then some (i : Int) else none) l.length (some (-1)) 0 (fun i _ hi => by
    obtain ⟨x, hx⟩ : ∃ x, l[i]? = some x := ⟨l[i], by simp [hi]⟩
    have hi' : idx l (i : Int) = some x := by unfold idx; rw [if_pos (by omega), Int.toNat_natCast]; exact hx
    show slices_Index_Spot_Spot_b1 l v (i : Int) = _
    rw [slices_Index_Spot_Spot_b1, if_pos (by omega), hi', w64_in (by omega) (by omega)]
    simp only [Option.bind_some, hx, Option.some.injEq]
    by_cases h : v = x
    · simp [h]
    · have : ¬ x = v := fun e => h e.symm
      simp [h, this]) (by
    show slices_Index_Spot_Spot_b1 l v ((l.length : Nat) : Int) = _
    rw [slices_Index_Spot_Spot_b1, if_neg (by omega)]) l.length 0 (by omega) (by omega)
  unfold slices_Contains_Spot_Spot slices_Index_Spot_Spot slices_Index_Spot_Spot_l1
  rw [show (0 : Int) = ((0 : Nat) : Int) from rfl, key]
  cases hg : firstG (fun i => if l[i]? = some v then some (i : Int) else none) 0 l.length with
  | none =>
    have : v ∉ l := by
      intro hm
      obtain ⟨i, hi, he⟩ := List.getElem_of_mem hm
      have := firstG_none.1 hg i (by omega) (by omega)
      simp [hi, he] at this
    simp [this, orE]
  | some e =>
    obtain ⟨j, _, j2, hj⟩ := firstG_some hg
    by_cases h : l[j]? = some v
    · simp only [h, if_true, Option.some.injEq] at hj
      have : v ∈ l := List.mem_of_getElem? h
      simp [this, ← hj, orE]
    · simp [h] at hj
/-- The first fault of the corners by themselves. -/
noncomputable def cornF (l : List Spot) (i : Nat) : Option Int := match l[i]? with
  | none => none
  | some s => open Classical in if ¬ SB s then some 1 else if s ∈ l.take i then some 6 else none
theorem Check_l1_eq (f : FenceS) (hl : f.Corners.length ≤ 200) : place_CheckFence_l1 f 0 = orE (firstG (cornF f.Corners) 0 f.Corners.length) (place_CheckFence_k1 f) := by
  unfold place_CheckFence_l1
  rw [show (0 : Int) = ((0 : Nat) : Int) from rfl]
  refine iter_first (fun x : Int => place_CheckFence_b1 f x) (cornF f.Corners) f.Corners.length (place_CheckFence_k1 f) 0 (fun i _ hi => ?_) ?_ f.Corners.length 0 (by omega) (by omega)
  · obtain ⟨x, hx⟩ : ∃ x, f.Corners[i]? = some x := ⟨f.Corners[i], by simp [hi]⟩
    have hi' : idx f.Corners (i : Int) = some x := by unfold idx; rw [if_pos (by omega), Int.toNat_natCast]; exact hx
    show place_CheckFence_b1 f (i : Int) = _
    rw [place_CheckFence_b1, if_pos (by omega), hi', w64_in (by omega) (by omega), slc_in (by omega) (by omega) (by omega)]
    simp only [Option.bind_some]
    rw [Contains_eq _ _ (by simp; omega)]
    simp only [Option.bind_some, cornF, hx, Int.toNat_natCast, Int.toNat_zero, List.drop_zero, Nat.sub_zero]
    by_cases h : SB x
    · rw [(isSpot_eq x).2 h]
      by_cases h2 : x ∈ f.Corners.take i <;> simp [h, h2]
    · have : place_isSpot x = false := by
        cases hb : place_isSpot x with
        | false => rfl
        | true => exact absurd ((isSpot_eq x).1 hb) h
      simp [h, this]
  · show place_CheckFence_b1 f ((f.Corners.length : Nat) : Int) = _
    rw [place_CheckFence_b1, if_neg (by omega)]
theorem Corners_l1_eq (l : List Spot) (hl : l.length ≤ 200) : Q_CornersFault_l1 l 0 = orE (firstG (cornF l) 0 l.length) (Q_CornersFault_l2 l 0) := by
  unfold Q_CornersFault_l1
  rw [show iter (fun x : Int => Q_CornersFault_b1 l x) 0 = iter (fun x : Int => Q_CornersFault_b1 l x) ((0 : Nat) : Int) from rfl]
  refine iter_first (fun x : Int => Q_CornersFault_b1 l x) (cornF l) l.length (Q_CornersFault_l2 l 0) 0 (fun i _ hi => ?_) ?_ l.length 0 (by omega) (by omega)
  · obtain ⟨x, hx⟩ : ∃ x, l[i]? = some x := ⟨l[i], by simp [hi]⟩
    have hi' : idx l (i : Int) = some x := by unfold idx; rw [if_pos (by omega), Int.toNat_natCast]; exact hx
    show Q_CornersFault_b1 l (i : Int) = _
    rw [Q_CornersFault_b1, if_pos (by omega), hi', w64_in (by omega) (by omega), slc_in (by omega) (by omega) (by omega)]
    simp only [Option.bind_some]
    rw [Contains_eq _ _ (by simp; omega)]
    simp only [Option.bind_some, cornF, hx, Int.toNat_natCast, Int.toNat_zero, List.drop_zero, Nat.sub_zero]
    by_cases h : SB x
    · rw [(SpotFault_eq x).1 h]
      by_cases h2 : x ∈ l.take i <;> simp [h, h2]
    · rw [(SpotFault_eq x).2 h]
      simp [h]
  · show Q_CornersFault_b1 l ((l.length : Nat) : Int) = _
    rw [Q_CornersFault_b1, if_neg (by omega)]
theorem corn_ok {l : List Spot} (h : firstG (cornF l) 0 l.length = none) : (∀ x ∈ l, SB x) ∧ Dist l := by
  have h' : ∀ i, i < l.length → cornF l i = none := fun i hi => firstG_none.1 h i (by omega) (by omega)
  have key : ∀ i (hi : i < l.length), SB l[i] ∧ l[i] ∉ l.take i := by
    intro i hi
    have := h' i hi
    unfold cornF at this
    simp only [List.getElem?_eq_getElem hi] at this
    by_cases h1 : SB l[i]
    · by_cases h2 : l[i] ∈ l.take i
      · simp [h1, h2] at this
      · exact ⟨h1, h2⟩
    · simp [h1] at this
  constructor
  · intro x hx
    obtain ⟨i, hi, he⟩ := List.getElem_of_mem hx
    rw [← he]; exact (key i hi).1
  · have half : ∀ i j, i < j → j < l.length → pl l i ≠ pl l j := by
      intro i j hij hj e
      rw [← pl_at (show i < l.length by omega), ← pl_at hj, ← GS_inj] at e
      refine (key j hj).2 ?_
      rw [← e]
      rw [List.mem_take_iff_getElem]
      exact ⟨i, by omega, rfl⟩
    intro i j hi hj e
    rcases Nat.lt_trichotomy i j with k | k | k
    · exact absurd e (half i j k hj)
    · exact k
    · exact absurd e.symm (half j i k hi)
/-- What is wrong with corners. -/
noncomputable def cornE (l : List Spot) : Int := open Classical in
  if l.length < 3 then 3 else if 200 < l.length then 2 else match firstG (cornF l) 0 l.length with
  | some e => e
  | none => if ∃ i, 0 ≤ i ∧ i < l.length ∧ ∃ k, 0 ≤ k ∧ k < l.length ∧ k ≠ i ∧ badQ l i k then 13 else 0
theorem CornersFault_eq (l : List Spot) : Q_CornersFault l = some (cornE l) := by
  unfold Q_CornersFault cornE
  by_cases h1 : l.length < 3
  · rw [if_pos (by omega), if_pos h1]
  · rw [if_neg (by omega), if_neg h1]
    by_cases h2 : 200 < l.length
    · rw [if_pos (by omega), if_pos h2]
    · rw [if_neg (by omega), if_neg h2, Corners_l1_eq l (by omega)]
      cases hg : firstG (cornF l) 0 l.length with
      | some e => rfl
      | none =>
        simp only [orE]
        have hc := Corners_l2_eq (corn_ok hg).1 (by omega)
        split
        · rename_i h; exact hc.1 h
        · rename_i h; exact hc.2 h
noncomputable def fenE (f : FenceS) : Int := if keyB f.Key = true then cornE f.Corners else 5
theorem FenceFault_eq (f : FenceS) : Q_FenceFault f = some (fenE f) := by
  unfold Q_FenceFault fenE
  rw [QKey_eq, CornersFault_eq]
  simp only [Option.bind_some]
  cases keyB f.Key <;> simp
theorem CheckFence_eq (f : FenceS) : place_CheckFence f = some (fenE f) := by
  unfold place_CheckFence fenE
  rw [Key_eq]
  simp only [Option.bind_some]
  cases keyB f.Key with
  | false => simp
  | true =>
    simp only [Bool.not_true, Bool.false_eq_true, if_false, if_true]
    unfold cornE
    by_cases h1 : f.Corners.length < 3
    · rw [if_pos (by omega), if_pos h1]
    · rw [if_neg (by omega), if_neg h1]
      by_cases h2 : 200 < f.Corners.length
      · rw [if_pos (by omega), if_pos h2]
      · rw [if_neg (by omega), if_neg h2, Check_l1_eq f (by omega)]
        cases hg : firstG (cornF f.Corners) 0 f.Corners.length with
        | some e => rfl
        | none =>
          simp only [orE]
          obtain ⟨hs, hd⟩ := corn_ok hg
          have hc := crossed_eq hs (by omega) (by omega)
          rw [bad_same hd (by omega)] at hc
          unfold place_CheckFence_k1
          split
          · rename_i h; rw [hc.1 h]; rfl
          · rename_i h; rw [hc.2 h]; rfl
/-- A right fence. -/
structure Right (l : List Spot) : Prop where
  lo : 3 ≤ l.length
  hi : l.length ≤ 200
  sb : ∀ x ∈ l, SB x
  simple : Simple (pl l) (l.length - 3)
theorem cornE_right {l : List Spot} (h : cornE l = 0) : Right l := by
  unfold cornE at h
  by_cases h1 : l.length < 3
  · rw [if_pos h1] at h; omega
  · rw [if_neg h1] at h
    by_cases h2 : 200 < l.length
    · rw [if_pos h2] at h; omega
    · rw [if_neg h2] at h
      cases hg : firstG (cornF l) 0 l.length with
      | some e =>
        rw [hg] at h
        simp only at h
        obtain ⟨j, _, _, hj⟩ := firstG_some hg
        unfold cornF at hj
        cases hx : l[j]? with
        | none => rw [hx] at hj; simp at hj
        | some x =>
          rw [hx] at hj
          simp only at hj
          subst h
          split at hj
          · simp at hj
          · split at hj
            · simp at hj
            · simp at hj
      | none =>
        rw [hg] at h
        simp only at h
        obtain ⟨hs, hd⟩ := corn_ok hg
        split at h
        · omega
        · rename_i hb
          exact ⟨by omega, by omega, hs, simple_of hd (by omega) hb⟩
theorem fenE_right {f : FenceS} (h : fenE f = 0) : Right f.Corners := by
  unfold fenE at h
  split at h
  · exact cornE_right h
  · omega
/-! where a spot lies -/
noncomputable def whereE (l : List Spot) (s : Spot) : Int := open Classical in
  if ∃ i, i < l.length ∧ onS (pl l i) (pl l (i + 1)) (GS s) then 1 else if turns (pl l) l.length (GS s) ≠ 0 then 2 else 0
theorem edges_any {l : List Spot} (hl : l.length ≤ 100000) (f : Spot → Spot → Option Bool) (B : Nat → Prop) (hf : ∀ i a b, i < l.length → GS a = pl l i → GS b = pl l (i + 1) → a ∈ l → b ∈ l → (B i → f a b = some true) ∧ (¬ B i → f a b = some false)) : ((∃ i, 0 ≤ i ∧ i < l.length ∧ B i) → place_edges l f = some true) ∧ ((¬ ∃ i, 0 ≤ i ∧ i < l.length ∧ B i) → place_edges l f = some false) := by
  unfold place_edges place_edges_l1
  refine iter_anyP (fun x : Int => place_edges_b1 l f x) B true false l.length 0 (fun i _ hi => ?_) ?_ (by omega)
  · obtain ⟨a, b, a1, a2, a3, a4, a5, a6, a7⟩ := edge_at l hi hl
    show (_ → place_edges_b1 l f (i : Int) = _) ∧ (_ → place_edges_b1 l f (i : Int) = _)
    rw [place_edges_b1, if_pos (by omega), a1]
    simp only [Option.bind_some]
    rw [a2]
    simp only [Option.bind_some]
    rw [a3]
    simp only [Option.bind_some]
    rw [w64_in (by omega) (by omega)]
    have := hf i a b hi a4 a5 a6 a7
    constructor
    · intro h; rw [this.1 h]; rfl
    · intro h; rw [this.2 h]; rfl
  · show place_edges_b1 l f ((l.length : Nat) : Int) = _
    rw [place_edges_b1, if_neg (by omega)]; rfl
theorem toggle {a b s : Spot} (ha : SB a) (hb : SB b) (hs : SB s) (c : Bool) : place_where_2x a b s c = (false, if cr (GS a) (GS b) (GS s) = 0 then c else !c) := by
  have key : ∀ {a b : Spot}, SB a → SB b → a.Y ≤ b.Y → place_where_2x_j1 s c a.X a.Y b.X b.Y = (false, if cr (GS a) (GS b) (GS s) = 0 then c else !c) := by
    intro a b ha hb hab
    unfold place_where_2x_j1 place_where_2x_j2 place_where_2x_j3
    have e := side_eq ha hb hs
    have e' : place_side (⟨a.X, a.Y⟩ : Spot) (⟨b.X, b.Y⟩ : Spot) s = place_side a b s := rfl
    rw [e', e]
    have hc : cr (GS a) (GS b) (GS s) = if a.Y ≤ s.Y ∧ s.Y < b.Y ∧ 0 < sd (GS a) (GS b) (GS s) then 1 else 0 := by
      unfold cr
      show (if a.Y ≤ s.Y ∧ s.Y < b.Y ∧ _ then 1 else if b.Y ≤ s.Y ∧ s.Y < a.Y ∧ _ then -1 else 0) = _
      repeat' split
      all_goals omega
    rw [hc]
    by_cases h : a.Y ≤ s.Y ∧ s.Y < b.Y ∧ 0 < sd (GS a) (GS b) (GS s)
    · rw [if_pos h, if_pos (by simpa using h)]; simp
    · rw [if_neg h, if_neg (by simpa using h)]; simp
  unfold place_where_2x
  by_cases h : b.Y < a.Y
  · rw [if_pos h, key hb ha (by omega), cr_swap (GS a)]
    by_cases h2 : cr (GS a) (GS b) (GS s) = 0
    · simp [h2]
    · have : ¬ -cr (GS a) (GS b) (GS s) = 0 := by omega
      simp [h2, this]
  · rw [if_neg h, key ha hb (by omega)]
theorem parity_loop {l : List Spot} (hS : ∀ x ∈ l, SB x) (hl : l.length ≤ 100000) {s : Spot} (hs : SB s) : ∀ (m i : Nat) (c : Bool), i + m = l.length → (c = decide (Sm (fun j => cr (pl l j) (pl l (j + 1)) (GS s)) i % 2 ≠ 0)) → place_edges_f1x_place_where_2x_l1 l s c (i : Int) = some (false, decide (turns (pl l) l.length (GS s) % 2 ≠ 0)) := by
  intro m
  induction m with
  | zero =>
    intro i c hi hc
    unfold place_edges_f1x_place_where_2x_l1
    rw [iter_eq, place_edges_f1x_place_where_2x_b1, if_neg (by simp only; omega), map_inr_after, hc]
    obtain rfl : i = l.length := by omega
    rfl
  | succ m ih =>
    intro i c hi hc
    obtain ⟨a, b, a1, a2, a3, a4, a5, a6, a7⟩ := edge_at l (show i < l.length by omega) hl
    unfold place_edges_f1x_place_where_2x_l1 at ih ⊢
    rw [iter_eq, place_edges_f1x_place_where_2x_b1, if_pos (by simp only; omega)]
    simp only [a1, a2, a3, Option.bind_some]
    rw [toggle (hS a a6) (hS b a7) hs]
    simp only [Bool.false_eq_true, if_false, Option.bind_some, after_inl]
    rw [w64_in (by omega) (by omega)]
    refine ih (i + 1) _ (by omega) ?_
    have hv : cr (GS a) (GS b) (GS s) = 0 ∨ cr (GS a) (GS b) (GS s) = 1 ∨ cr (GS a) (GS b) (GS s) = -1 := by
      unfold cr
      repeat' split
      all_goals omega
    have hS1 : Sm (fun j => cr (pl l j) (pl l (j + 1)) (GS s)) (i + 1) = Sm (fun j => cr (pl l j) (pl l (j + 1)) (GS s)) i + cr (GS a) (GS b) (GS s) := by rw [a4, a5]; rfl
    rw [hS1, hc]
    generalize Sm (fun j => cr (pl l j) (pl l (j + 1)) (GS s)) i = S
    by_cases h0 : cr (GS a) (GS b) (GS s) = 0
    · rw [if_pos h0, h0, Int.add_zero]
    · rw [if_neg h0]
      by_cases hp : S % 2 ≠ 0
      · rw [decide_eq_true hp, decide_eq_false (by omega)]; rfl
      · rw [decide_eq_false hp, decide_eq_true (by omega)]; rfl
theorem where_eq {l : List Spot} (hr : Right l) {s : Spot} (hs : SB s) : place_where l s = some (whereE l s) := by
  have hl := hr.hi
  unfold place_where whereE
  have he := edges_any (l := l) (by omega) (fun y0 y1 => some (place_where_1x y0 y1 s)) (fun i => onS (pl l i) (pl l (i + 1)) (GS s)) (fun i a b hi h1 h2 h3 h4 => by
    unfold place_where_1x
    rw [on_eq (hr.sb a h3) (hr.sb b h4) hs, h1, h2]
    constructor
    · intro h; simp [h]
    · intro h; simp [h])
  by_cases h : ∃ i, i < l.length ∧ onS (pl l i) (pl l (i + 1)) (GS s)
  · obtain ⟨i, i1, i2⟩ := h
    rw [he.1 ⟨i, by omega, i1, i2⟩, if_pos ⟨i, i1, i2⟩]
    rfl
  · rw [he.2 (fun ⟨i, _, i1, i2⟩ => h ⟨i, i1, i2⟩), if_neg h]
    simp only [Option.bind_some, Bool.false_eq_true, if_false]
    unfold place_edges_f1x_place_where_2x
    rw [show (0 : Int) = ((0 : Nat) : Int) from rfl, parity_loop hr.sb (by omega) hs l.length 0 false (by omega) (by simp [Sm])]
    have hn : l.length - 3 + 3 = l.length := by have := hr.lo; omega
    have ht := turns_one hr.simple (s := GS s) (fun j hj => h ⟨j % l.length, Nat.mod_lt _ (by have := hr.lo; omega), by rw [pl_mod, pl_mod1]; exact hj⟩)
    rw [hn] at ht
    simp only [Option.bind_some]
    rcases ht with ht | ht | ht <;> rw [ht] <;> decide
theorem WhereOf_loop {l : List Spot} (hS : ∀ x ∈ l, SB x) (hl : l.length ≤ 100000) {s : Spot} (hs : SB s) : ∀ (m i : Nat), i + m = l.length → (¬ ∃ j, j < i ∧ onS (pl l j) (pl l (j + 1)) (GS s)) → Q_WhereOf_l1 l s (Sm (fun j => cr (pl l j) (pl l (j + 1)) (GS s)) i) (i : Int) = some (whereE l s) := by
  intro m
  induction m with
  | zero =>
    intro i hi hno
    obtain rfl : i = l.length := by omega
    unfold Q_WhereOf_l1
    rw [iter_eq, Q_WhereOf_b1, if_neg (by simp only; omega), map_inr_after]
    unfold Q_WhereOf_k5 whereE turns
    rw [if_neg hno]
    split <;> rfl
  | succ m ih =>
    intro i hi hno
    have hil : i < l.length := by omega
    obtain ⟨a, b, a1, a4, a5, a6, a7⟩ := Qedge_at l hil hl
    have hbd : ∀ k : Nat, -(k : Int) ≤ Sm (fun j => cr (pl l j) (pl l (j + 1)) (GS s)) k ∧ Sm (fun j => cr (pl l j) (pl l (j + 1)) (GS s)) k ≤ k := by
      intro k
      induction k with
      | zero => simp [Sm]
      | succ k ih =>
        simp only [Sm]
        have hv : -1 ≤ cr (pl l k) (pl l (k + 1)) (GS s) ∧ cr (pl l k) (pl l (k + 1)) (GS s) ≤ 1 := by
          unfold cr
          repeat' split
          all_goals omega
        omega
    unfold Q_WhereOf_l1 at ih ⊢
    rw [iter_eq, Q_WhereOf_b1, if_pos (by simp only; omega)]
    simp only [a1, Option.bind_some]
    rw [onWay_eq (hS a a6) (hS b a7) hs, a4, a5]
    by_cases hon : onS (pl l i) (pl l (i + 1)) (GS s)
    · rw [if_pos (by simpa using hon), map_inr_after]
      unfold whereE
      rw [if_pos ⟨i, hil, hon⟩]
    · rw [if_neg (by simpa using hon)]
      have hq := Qside_s (hS a a6) (hS b a7) hs
      have hb := hbd i
      have step : Q_WhereOf_j1 s (Sm (fun j => cr (pl l j) (pl l (j + 1)) (GS s)) i) (i : Int) (a, b) (decide (a.Y ≤ s.Y) && (decide (s.Y < b.Y) && decide (0 < Q_side a b s))) = some (.inl (Sm (fun j => cr (pl l j) (pl l (j + 1)) (GS s)) (i + 1), (i : Int) + 1)) := by
        unfold Q_WhereOf_j1 Q_WhereOf_j2 Q_WhereOf_j3 Q_WhereOf_j4 Q_WhereOf_j2
        simp only [Sm]
        rw [← a4, ← a5]
        generalize Sm (fun j => cr (pl l j) (pl l (j + 1)) (GS s)) i = S at *
        rw [w64_in (x := S + 1) (by omega) (by omega), w64_in (x := S - 1) (by omega) (by omega), w64_in (x := (i : Int) + 1) (by omega) (by omega)]
        have hc : cr (GS a) (GS b) (GS s) = if a.Y ≤ s.Y ∧ s.Y < b.Y ∧ 0 < sd (GS a) (GS b) (GS s) then 1 else if b.Y ≤ s.Y ∧ s.Y < a.Y ∧ sd (GS a) (GS b) (GS s) < 0 then -1 else 0 := rfl
        rw [hc]
        simp only [Bool.and_eq_true, decide_eq_true_eq, hq.2.1, hq.2.2]
        by_cases c1 : a.Y ≤ s.Y ∧ s.Y < b.Y ∧ 0 < sd (GS a) (GS b) (GS s)
        · rw [if_pos c1, if_pos c1]
        · rw [if_neg c1, if_neg c1]
          by_cases c2 : b.Y ≤ s.Y ∧ s.Y < a.Y ∧ sd (GS a) (GS b) (GS s) < 0
          · rw [if_pos c2, if_pos ⟨c2.2.1, c2.1, c2.2.2⟩]; rfl
          · rw [if_neg c2, if_neg (fun h => c2 ⟨h.2.1, h.1, h.2.2⟩), Int.add_zero]
      rw [step]
      simp only [Option.bind_some, after_inl]
      refine ih (i + 1) (by omega) ?_
      rintro ⟨j, j1, j2⟩
      by_cases e : j = i
      · subst e; exact hon j2
      · exact hno ⟨j, by omega, j2⟩
theorem WhereOf_eq {l : List Spot} (hS : ∀ x ∈ l, SB x) (hl : l.length ≤ 100000) {s : Spot} (hs : SB s) : Q_WhereOf l s = some (whereE l s) := by
  unfold Q_WhereOf
  exact WhereOf_loop hS hl hs l.length 0 (by omega) (fun ⟨j, h, _⟩ => by omega)
end Go.Beacon
