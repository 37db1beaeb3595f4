/- The law FencesTell as a plain statement. No program in sight. -/
import Derived.Test.YtbcbhhbbejcnnaaFenPfng
set_option linter.unusedVariables false
set_option linter.unusedSimpArgs false
namespace Go.Beacon
open Go Go.Eng

/-! the area -/
def cx (a b : GP) : Int := a.x * b.y - a.y * b.x
theorem cx_bd {a b : Spot} (ha : SB a) (hb : SB b) : -200000000 ≤ cx (GS a) (GS b) ∧ cx (GS a) (GS b) ≤ 200000000 := by
  unfold SB at ha hb
  have m1 := mul_bd (a := a.X) (b := b.Y) (A := 10000) (B := 10000) (by omega) (by omega) (by omega) (by omega)
  have m2 := mul_bd (a := a.Y) (b := b.X) (A := 10000) (B := 10000) (by omega) (by omega) (by omega) (by omega)
  unfold cx GS
  simp only
  omega
def lace (l : List Spot) (n : Nat) : Int := Sm (fun i => cx (pl l i) (pl l (i + 1))) n
theorem Sm_bd {f : Nat → Int} {A : Int} : ∀ {n : Nat}, (∀ i, i < n → -A ≤ f i ∧ f i ≤ A) → -(A * n) ≤ Sm f n ∧ Sm f n ≤ A * n
  | 0, _ => by simp [Sm]
  | n + 1, h => by
    have h1 := Sm_bd (n := n) (fun i hi => h i (by omega))
    have h2 := h n (by omega)
    simp only [Sm]
    have e : A * ((n + 1 : Nat) : Int) = A * n + A := by rw [show ((n + 1 : Nat) : Int) = (n : Int) + 1 by omega, Int.mul_add, Int.mul_one]
    rw [e]; omega
theorem pl_sb {l : List Spot} (hr : Right l) (i : Nat) : ∃ a, a ∈ l ∧ SB a ∧ GS a = pl l i := by
  have hn : 0 < l.length := by have := hr.lo; omega
  have hm := Nat.mod_lt i hn
  exact ⟨l[i % l.length], List.getElem_mem hm, hr.sb _ (List.getElem_mem hm), by rw [pl_at hm, pl_mod]⟩
theorem lace_bd {l : List Spot} (hr : Right l) (n : Nat) (hn : n ≤ 200) : -40000000000 ≤ lace l n ∧ lace l n ≤ 40000000000 := by
  have := Sm_bd (f := fun i => cx (pl l i) (pl l (i + 1))) (A := 200000000) (n := n) (fun i _ => by
    obtain ⟨a, _, ha, ea⟩ := pl_sb hr i
    obtain ⟨b, _, hb, eb⟩ := pl_sb hr (i + 1)
    rw [← ea, ← eb]; exact cx_bd ha hb)
  unfold lace; omega
theorem area_loop {l : List Spot} (hr : Right l) : ∀ (m i : Nat), i + m = l.length → place_edges_f1x_place_Area2x_1x_l1 l (lace l i) (i : Int) = some (false, lace l l.length) := by
  have hl := hr.hi
  intro m
  induction m with
  | zero =>
    intro i hi
    obtain rfl : i = l.length := by omega
    unfold place_edges_f1x_place_Area2x_1x_l1
    rw [iter_eq, place_edges_f1x_place_Area2x_1x_b1, if_neg (by simp only; omega), map_inr_after]
  | succ m ih =>
    intro i hi
    obtain ⟨a, b, a1, a2, a3, a4, a5, a6, a7⟩ := edge_at l (show i < l.length by omega) (by omega)
    have b1 := lace_bd hr i (by omega)
    have b2 := lace_bd hr (i + 1) (by omega)
    have e : lace l (i + 1) = lace l i + cx (GS a) (GS b) := by rw [a4, a5]; rfl
    have hcx := cx_bd (hr.sb a a6) (hr.sb b a7)
    have step : place_Area2x_1x a b (lace l i) = (false, lace l (i + 1)) := by
      unfold place_Area2x_1x
      have ha := hr.sb a a6
      have hb := hr.sb b a7
      unfold SB at ha hb
      have m1 := mul_bd (a := a.X) (b := b.Y) (A := 10000) (B := 10000) (by omega) (by omega) (by omega) (by omega)
      have m2 := mul_bd (a := a.Y) (b := b.X) (A := 10000) (B := 10000) (by omega) (by omega) (by omega) (by omega)
      rw [w64_in (x := a.X * b.Y) (by omega) (by omega), w64_in (x := a.Y * b.X) (by omega) (by omega), w64_in (x := a.X * b.Y - a.Y * b.X) (by omega) (by omega), show a.X * b.Y - a.Y * b.X = cx (GS a) (GS b) from rfl, ← e, w64_in (by omega) (by omega)]
    unfold place_edges_f1x_place_Area2x_1x_l1 at ih ⊢
    rw [iter_eq, place_edges_f1x_place_Area2x_1x_b1, if_pos (by simp only; omega)]
    simp only [a1, a2, a3, Option.bind_some, step]
    rw [w64_in (by omega) (by omega)]
    simp only [Bool.false_eq_true, if_false, Option.bind_some, after_inl]
    exact ih (i + 1) (by omega)
theorem fan (l : List Spot) : ∀ n : Nat, Sm (fun j => sd (pl l 0) (pl l (j + 1)) (pl l (j + 2))) n = lace l (n + 1) - cx (pl l 0) (pl l (n + 1))
  | 0 => by unfold lace; simp [Sm]
  | n + 1 => by
    have ih := fan l n
    have e : lace l (n + 1 + 1) = lace l (n + 1) + cx (pl l (n + 1)) (pl l (n + 2)) := rfl
    simp only [Sm]
    rw [ih, e, show n + 1 + 1 = n + 2 by omega]
    unfold sd cx
    grind
theorem area_of {f : FenceS} (hr : Right f.Corners) : Q_Area2Of f = some (max (lace f.Corners f.Corners.length) (-(lace f.Corners f.Corners.length))) := by
  have hl := hr.hi
  have hlo := hr.lo
  have h0 : ∃ o, idx f.Corners 0 = some o ∧ GS o = pl f.Corners 0 ∧ o ∈ f.Corners := by
    obtain ⟨a, b, a1, _, _, a4, _, a6, _⟩ := edge_at f.Corners (show 0 < f.Corners.length by omega) (by omega)
    exact ⟨a, a1, a4, a6⟩
  obtain ⟨o, o1, o2, o3⟩ := h0
  have hend : lace f.Corners f.Corners.length = lace f.Corners (f.Corners.length - 1) - cx (pl f.Corners 0) (pl f.Corners (f.Corners.length - 1)) := by
    have e : f.Corners.length = f.Corners.length - 1 + 1 := by omega
    have e2 : lace f.Corners (f.Corners.length - 1 + 1) = lace f.Corners (f.Corners.length - 1) + cx (pl f.Corners (f.Corners.length - 1)) (pl f.Corners (f.Corners.length - 1 + 1)) := rfl
    rw [← e] at e2
    have e3 : pl f.Corners f.Corners.length = pl f.Corners 0 := by have := pl_per f.Corners 0; rwa [Nat.zero_add] at this
    rw [e2, e3]
    unfold cx
    grind
  have key : ∀ (m i : Nat), i + 1 + m = f.Corners.length - 1 → Q_Area2Of_l1 f (Sm (fun j => sd (pl f.Corners 0) (pl f.Corners (j + 1)) (pl f.Corners (j + 2))) i) ((i + 1 : Nat) : Int) = some (max (lace f.Corners f.Corners.length) (-(lace f.Corners f.Corners.length))) := by
    intro m
    induction m with
    | zero =>
      intro i hi
      unfold Q_Area2Of_l1
      have hfan := fan f.Corners i
      rw [show i + 1 = f.Corners.length - 1 by omega, ← hend] at hfan
      have b := lace_bd hr f.Corners.length hl
      rw [iter_eq, Q_Area2Of_b1, if_neg (by rw [w64_in (by simp only; omega) (by simp only; omega)]; simp only; omega), map_inr_after]
      simp only
      rw [hfan, w64_in (by omega) (by omega)]
    | succ m ih =>
      intro i hi
      obtain ⟨a, b, a1, a2, a3, a4, a5, a6, a7⟩ := edge_at f.Corners (show i + 1 < f.Corners.length by omega) (by omega)
      have hmod : (i + 1 + 1) % f.Corners.length = i + 1 + 1 := Nat.mod_eq_of_lt (by omega)
      rw [hmod] at a3
      have hfan := fan f.Corners i
      have hfan' := fan f.Corners (i + 1)
      have l1 := lace_bd hr (i + 1) (by omega)
      have l2 := lace_bd hr (i + 1 + 1) (by omega)
      have c1 : -200000000 ≤ cx (pl f.Corners 0) (pl f.Corners (i + 1)) ∧ cx (pl f.Corners 0) (pl f.Corners (i + 1)) ≤ 200000000 := by
        rw [← o2, ← a4]; exact cx_bd (hr.sb o o3) (hr.sb a a6)
      have c2 : -200000000 ≤ cx (pl f.Corners 0) (pl f.Corners (i + 1 + 1)) ∧ cx (pl f.Corners 0) (pl f.Corners (i + 1 + 1)) ≤ 200000000 := by
        rw [← o2, ← a5]; exact cx_bd (hr.sb o o3) (hr.sb b a7)
      have hw : w64 (((i + 1 : Nat) : Int) + 1) = ((i + 1 + 1 : Nat) : Int) := by rw [w64_in (by omega) (by omega)]; rfl
      have es : Sm (fun j => sd (pl f.Corners 0) (pl f.Corners (j + 1)) (pl f.Corners (j + 2))) (i + 1) = Sm (fun j => sd (pl f.Corners 0) (pl f.Corners (j + 1)) (pl f.Corners (j + 2))) i + sd (GS o) (GS a) (GS b) := by
        rw [o2, a4, a5]; rfl
      unfold Q_Area2Of_l1 at ih ⊢
      rw [iter_eq, Q_Area2Of_b1]
      simp only
      rw [hw, if_pos (by omega), a1]
      simp only [Option.bind_some, o1]
      rw [a3]
      simp only [Option.bind_some]
      rw [cross_eq (hr.sb o o3) (hr.sb a a6) (hr.sb b a7), ← es, w64_in (by omega) (by omega)]
      simp only [after_inl]
      exact ih (i + 1) (by omega)
  unfold Q_Area2Of
  exact key (f.Corners.length - 2) 0 (by omega)
/-! the box -/
def MnN (f : Nat → Int) : Nat → Int
  | 0 => f 0
  | k + 1 => min (MnN f k) (f k)
def MxN (f : Nat → Int) : Nat → Int
  | 0 => f 0
  | k + 1 => max (MxN f k) (f k)
theorem box_eq {l : List Spot} (hl : l.length ≤ 100000) (h0 : 0 < l.length) : place_box l = some (⟨MnN (fun i => (pl l i).x) l.length, MnN (fun i => (pl l i).y) l.length⟩, ⟨MxN (fun i => (pl l i).x) l.length, MxN (fun i => (pl l i).y) l.length⟩) := by
  have key : ∀ (m i : Nat), i + m = l.length → place_box_l1 l (MnN (fun i => (pl l i).x) i) (MnN (fun i => (pl l i).y) i) (MxN (fun i => (pl l i).x) i) (MxN (fun i => (pl l i).y) i) (i : Int) = some (⟨MnN (fun i => (pl l i).x) l.length, MnN (fun i => (pl l i).y) l.length⟩, ⟨MxN (fun i => (pl l i).x) l.length, MxN (fun i => (pl l i).y) l.length⟩) := by
    intro m
    induction m with
    | zero =>
      intro i hi
      obtain rfl : i = l.length := by omega
      unfold place_box_l1
      rw [iter_eq, place_box_b1, if_neg (by simp only; omega), map_inr_after]
    | succ m ih =>
      intro i hi
      obtain ⟨a, b, a1, a2, a3, a4, a5, a6, a7⟩ := edge_at l (show i < l.length by omega) hl
      unfold place_box_l1 at ih ⊢
      rw [iter_eq, place_box_b1, if_pos (by simp only; omega)]
      simp only [a1, Option.bind_some, after_inl]
      rw [w64_in (by omega) (by omega)]
      have := ih (i + 1) (by omega)
      simp only [MnN, MxN, ← a4, GS] at this
      exact this
  obtain ⟨a, b, a1, a2, a3, a4, a5, a6, a7⟩ := edge_at l h0 hl
  unfold place_box
  have a1' : idx l 0 = some a := a1
  rw [a1']
  simp only [Option.bind_some]
  have := key l.length 0 (by omega)
  simp only [MnN, MxN, ← a4, GS] at this
  exact this
theorem Min_eq {f : Nat → Int} {l : List Int} (hl : l.length ≤ 100000) (h0 : 0 < l.length) (hf : ∀ i (h : i < l.length), l[i] = f i) : slices_Min_int_int l = some (MnN f l.length) := by
  have hx : ∀ i, i < l.length → idx l (i : Int) = some (f i) := by
    intro i hi
    unfold idx; rw [if_pos (by omega), Int.toNat_natCast, List.getElem?_eq_getElem hi, hf i hi]
  have key : ∀ (m i : Nat), i + m = l.length → slices_Min_int_int_l1 l (MnN f i) (i : Int) = some (MnN f l.length) := by
    intro m
    induction m with
    | zero =>
      intro i hi
      obtain rfl : i = l.length := by omega
      unfold slices_Min_int_int_l1
      rw [iter_eq, slices_Min_int_int_b1, if_neg (by simp only; omega), map_inr_after]
    | succ m ih =>
      intro i hi
      unfold slices_Min_int_int_l1 at ih ⊢
      rw [iter_eq, slices_Min_int_int_b1, if_pos (by simp only; omega)]
      simp only [hx i (by omega), Option.bind_some, after_inl]
      rw [w64_in (by omega) (by omega)]
      exact ih (i + 1) (by omega)
  unfold slices_Min_int_int
  have h1 : idx l 0 = some (f 0) := hx 0 h0
  rw [if_neg (by omega), h1]
  simp only [Option.bind_some]
  have := key (l.length - 1) 1 (by omega)
  simp only [MnN, Int.min_self] at this
  exact this
theorem Max_eq {f : Nat → Int} {l : List Int} (hl : l.length ≤ 100000) (h0 : 0 < l.length) (hf : ∀ i (h : i < l.length), l[i] = f i) : slices_Max_int_int l = some (MxN f l.length) := by
  have hx : ∀ i, i < l.length → idx l (i : Int) = some (f i) := by
    intro i hi
    unfold idx; rw [if_pos (by omega), Int.toNat_natCast, List.getElem?_eq_getElem hi, hf i hi]
  have key : ∀ (m i : Nat), i + m = l.length → slices_Max_int_int_l1 l (MxN f i) (i : Int) = some (MxN f l.length) := by
    intro m
    induction m with
    | zero =>
      intro i hi
      obtain rfl : i = l.length := by omega
      unfold slices_Max_int_int_l1
      rw [iter_eq, slices_Max_int_int_b1, if_neg (by simp only; omega), map_inr_after]
    | succ m ih =>
      intro i hi
      unfold slices_Max_int_int_l1 at ih ⊢
      rw [iter_eq, slices_Max_int_int_b1, if_pos (by simp only; omega)]
      simp only [hx i (by omega), Option.bind_some, after_inl]
      rw [w64_in (by omega) (by omega)]
      exact ih (i + 1) (by omega)
  unfold slices_Max_int_int
  have h1 : idx l 0 = some (f 0) := hx 0 h0
  rw [if_neg (by omega), h1]
  simp only [Option.bind_some]
  have := key (l.length - 1) 1 (by omega)
  simp only [MxN, Int.max_self] at this
  exact this
theorem BoxOf_eq {l : List Spot} (hl : l.length ≤ 100000) (h0 : 0 < l.length) : Q_BoxOf l = some (⟨MnN (fun i => (pl l i).x) l.length, MnN (fun i => (pl l i).y) l.length⟩, ⟨MxN (fun i => (pl l i).x) l.length, MxN (fun i => (pl l i).y) l.length⟩) := by
  have key : ∀ (m i : Nat), i + m = l.length → Q_BoxOf_l1 l ((l.take i).map Spot.X) ((l.take i).map Spot.Y) (i : Int) = Q_BoxOf_k1 (l.map Spot.X) (l.map Spot.Y) := by
    intro m
    induction m with
    | zero =>
      intro i hi
      obtain rfl : i = l.length := by omega
      unfold Q_BoxOf_l1
      rw [iter_eq, Q_BoxOf_b1, if_neg (by simp only; omega), map_inr_after, List.take_length]
    | succ m ih =>
      intro i hi
      have hil : i < l.length := by omega
      have hi' : idx l (i : Int) = some l[i] := by unfold idx; rw [if_pos (by omega), Int.toNat_natCast]; simp [hil]
      unfold Q_BoxOf_l1 at ih ⊢
      rw [iter_eq, Q_BoxOf_b1, if_pos (by simp only; omega)]
      simp only [hi', Option.bind_some]
      rw [app_le (by simp; omega)]
      simp only [Option.bind_some]
      rw [app_le (by simp; omega)]
      simp only [Option.bind_some, after_inl]
      rw [w64_in (by omega) (by omega)]
      have := ih (i + 1) (by omega)
      rw [← List.take_append_getElem hil, List.map_append, List.map_append] at this
      exact this
  unfold Q_BoxOf
  have := key l.length 0 (by omega)
  simp only [List.take_zero, List.map_nil] at this
  rw [show (0 : Int) = ((0 : Nat) : Int) from rfl, this]
  unfold Q_BoxOf_k1
  rw [Min_eq (f := fun i => (pl l i).x) (by simpa using hl) (by simpa using h0) (fun i h => by
        simp only [List.length_map] at h
        rw [List.getElem_map, ← pl_at h]; rfl),
      Min_eq (f := fun i => (pl l i).y) (by simpa using hl) (by simpa using h0) (fun i h => by
        simp only [List.length_map] at h
        rw [List.getElem_map, ← pl_at h]; rfl),
      Max_eq (f := fun i => (pl l i).x) (by simpa using hl) (by simpa using h0) (fun i h => by
        simp only [List.length_map] at h
        rw [List.getElem_map, ← pl_at h]; rfl),
      Max_eq (f := fun i => (pl l i).y) (by simpa using hl) (by simpa using h0) (fun i h => by
        simp only [List.length_map] at h
        rw [List.getElem_map, ← pl_at h]; rfl)]
  simp
/-! the law -/
theorem FencesTell_plain (l : List Int) : L_FencesTell l = some true := by
  unfold L_FencesTell
  refine Gen.use (Fence_ok (k := 100) ⟨by simp, by simp⟩ (by omega)) (fun f s1 hf hs1 => ?_)
  refine Gen.use (Spot_ok (k := 90) (hs1.less (by omega)) (by omega)) (fun p s2 hp hs2 => ?_)
  have hE2 : ∀ x y : Int, L_errs [x, y] = some (orL [x, y]) := fun x y => gOr_eq _ (by simp)
  unfold place_Area2x place_Where place_Box
  simp only [CheckFence_eq, FenceFault_eq, spotFault_eq, Option.bind_some]
  by_cases h : fenE f = 0
  · have hr := fenE_right h
    have hlo := hr.lo
    have hhi := hr.hi
    have hA : place_edges_f1x_place_Area2x_1x f.Corners 0 = some (false, lace f.Corners f.Corners.length) := by
      unfold place_edges_f1x_place_Area2x_1x
      exact area_loop hr f.Corners.length 0 (by omega)
    have hb := lace_bd hr f.Corners.length hhi
    simp only [h, ne_eq, not_true_eq_false, if_false, hA, box_eq (l := f.Corners) (by omega) (by omega), Option.bind_some, decide_false, Bool.or_self]
    rw [w64_in (x := -lace f.Corners f.Corners.length) (by omega) (by omega), orL2]
    simp only [ne_eq, not_true_eq_false, if_false]
    by_cases hsp : Q_SpotFault p = 0
    · have hsb := SB_of hsp
      simp only [hsp, not_true_eq_false, if_false, where_eq hr hsb, Option.bind_some]
      unfold L_FencesTell_j1
      rw [if_neg (by simp)]
      simp only [hE2, hsp, Option.bind_some]
      rw [orL2]
      simp only [ne_eq, not_true_eq_false, if_false, if_true, BoxOf_eq (l := f.Corners) (by omega) (by omega), WhereOf_eq hr.sb (by omega) hsb, Option.bind_some]
      unfold L_FencesTell_j3 L_FencesTell_j4
      simp only [area_of hr, placedL_eq, Option.bind_some, if_true]
    · simp only [hsp, not_false_eq_true, if_true]
      simp only [Option.bind_some]
      unfold L_FencesTell_j1
      rw [if_neg (by simp)]
      simp only [hE2, Option.bind_some]
      rw [orL2]
      simp only [ne_eq, not_true_eq_false, if_false, hsp, BoxOf_eq (l := f.Corners) (by omega) (by omega), Option.bind_some]
      unfold L_FencesTell_j3 L_FencesTell_j4
      simp only [area_of hr, placedL_eq, Option.bind_some, if_true]
  · have ho : orL [fenE f, Q_SpotFault p] = fenE f := by rw [orL2, if_pos h]
    simp only [h, ho, ne_eq, not_false_eq_true, if_true, Option.bind_some, not_true_eq_false, decide_false, Bool.or_self]
    unfold L_FencesTell_j1 L_FencesTell_j2
    rw [if_neg (by simp)]
    simp only [hE2, ho, Option.bind_some, ne_eq, h, not_false_eq_true, if_true, placedL_eq]
end Go.Beacon
