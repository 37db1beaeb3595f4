/- Versions and images: checks, order, texts. No program in sight. -/
import Derived.Test.YtibjdfdmkahocaaDoorVerPok
import Derived.Test.YtibjdfdmkahocaaDoorVerPnmb
import Derived.Lib.ItoaLen
set_option linter.unusedVariables false
set_option linter.unusedSimpArgs false
namespace Go.Beacon
open Go Go.Eng

/-! order -/
def vcmp (a b : Version) : Int := orL [cmpI a.Major b.Major, cmpI a.Minor b.Minor, cmpI a.Patch b.Patch]
theorem vCompare_eq (a b : Version) : campaign_Compare a b = some (vcmp a b) := by
  unfold campaign_Compare
  have h : cmp_Or_int [cmp_Compare_int a.Major b.Major, cmp_Compare_int a.Minor b.Minor, cmp_Compare_int a.Patch b.Patch] = some (orL [cmp_Compare_int a.Major b.Major, cmp_Compare_int a.Minor b.Minor, cmp_Compare_int a.Patch b.Patch]) := gOr_eq _ (by simp)
  rw [h, CompareI_eq, CompareI_eq, CompareI_eq]; rfl
theorem cmpI_z {a b : Int} : cmpI a b = 0 ↔ a = b := by
  unfold cmpI; repeat' split
  all_goals omega
theorem vOrder_eq (a b : Version) : Q_VersionOrder a b = some (vcmp a b) := by
  unfold Q_VersionOrder
  have step : ∀ (i : Nat) (x y : Int), [a.Major, a.Minor, a.Patch][i]? = some x → [b.Major, b.Minor, b.Patch][i]? = some y → slices_Compare_int_int_b1 [a.Major, a.Minor, a.Patch] [b.Major, b.Minor, b.Patch] (i : Int) = if cmpI x y ≠ 0 then some (.inr (cmpI x y)) else some (.inl ((i : Int) + 1)) := by
    intro i x y h1 h2
    have hi : i < 3 := by simpa using (List.getElem?_eq_some_iff.1 h1).1
    unfold slices_Compare_int_int_b1
    rw [if_pos (by simp; omega)]
    have e1 : idx [a.Major, a.Minor, a.Patch] (i : Int) = some x := by unfold idx; rw [if_pos (by omega)]; simpa using h1
    have e2 : idx [b.Major, b.Minor, b.Patch] (i : Int) = some y := by unfold idx; rw [if_pos (by omega)]; simpa using h2
    rw [e1]
    simp only [Option.bind_some]
    rw [if_neg (by simp; omega), e2]
    simp only [Option.bind_some, CompareI_eq]
    rw [w64_in (by omega) (by omega)]
    rfl
  have s0 : slices_Compare_int_int_b1 [a.Major, a.Minor, a.Patch] [b.Major, b.Minor, b.Patch] 0 = if cmpI a.Major b.Major ≠ 0 then some (.inr (cmpI a.Major b.Major)) else some (.inl 1) := step 0 a.Major b.Major rfl rfl
  have s1 : slices_Compare_int_int_b1 [a.Major, a.Minor, a.Patch] [b.Major, b.Minor, b.Patch] 1 = if cmpI a.Minor b.Minor ≠ 0 then some (.inr (cmpI a.Minor b.Minor)) else some (.inl 2) := step 1 a.Minor b.Minor rfl rfl
  have s2 : slices_Compare_int_int_b1 [a.Major, a.Minor, a.Patch] [b.Major, b.Minor, b.Patch] 2 = if cmpI a.Patch b.Patch ≠ 0 then some (.inr (cmpI a.Patch b.Patch)) else some (.inl 3) := step 2 a.Patch b.Patch rfl rfl
  have s3 : slices_Compare_int_int_b1 [a.Major, a.Minor, a.Patch] [b.Major, b.Minor, b.Patch] 3 = some (.inr 0) := by
    unfold slices_Compare_int_int_b1 slices_Compare_int_int_k1
    rw [if_neg (by simp), if_neg (by simp)]; rfl
  unfold slices_Compare_int_int slices_Compare_int_int_l1
  unfold vcmp orL orL orL orL
  rw [iter_eq, s0]
  by_cases c0 : cmpI a.Major b.Major = 0
  · rw [if_neg (by simpa using c0), if_neg (by simpa using c0)]
    simp only [Option.bind_some, after_inl]
    rw [iter_eq, s1]
    by_cases c1 : cmpI a.Minor b.Minor = 0
    · rw [if_neg (by simpa using c1), if_neg (by simpa using c1)]
      simp only [Option.bind_some, after_inl]
      rw [iter_eq, s2]
      by_cases c2 : cmpI a.Patch b.Patch = 0
      · rw [if_neg (by simpa using c2), if_neg (by simpa using c2)]
        simp only [Option.bind_some, after_inl]
        rw [iter_eq, s3]; rfl
      · rw [if_pos c2, if_pos c2]; rfl
    · rw [if_pos c1, if_pos c1]; rfl
  · rw [if_pos c0, if_pos c0]; rfl
theorem vcmp_neg (a b : Version) : vcmp b a = - vcmp a b := by
  unfold vcmp
  rw [cmpI_neg b.Major a.Major, cmpI_neg b.Minor a.Minor, cmpI_neg b.Patch a.Patch]
  simp only [orL]
  repeat' split
  all_goals omega
/-! checks -/
def verB (v : Version) : Bool := (decide (0 ≤ v.Major) && decide (v.Major ≤ 9999)) && (decide (0 ≤ v.Minor) && decide (v.Minor ≤ 9999)) && (decide (0 ≤ v.Patch) && decide (v.Patch ≤ 9999))
theorem Version_chk (v : Version) : base_Version v = verB v := by
  unfold base_Version base_Version_j1 verB
  rw [Out_eq, Out_eq, Out_eq, Bool.eq_iff_iff]
  simp; omega
theorem Qver_eq (v : Version) : Q_versionFault v = if verB v = true then 0 else 1 := by
  unfold Q_versionFault Q_versionFault_j1
  rw [Qin_eq, Qin_eq, Qin_eq]
  by_cases h : verB v = true
  · rw [if_pos h, if_neg]; unfold verB at h; simp at h ⊢; omega
  · rw [if_neg h, if_pos]; unfold verB at h; simp at h ⊢; omega
theorem ver_eq (v : Version) : campaign_versionFault v = if verB v = true then 0 else 1 := by
  unfold campaign_versionFault
  rw [Version_chk]
  cases verB v <;> rfl
theorem fits_eq (x : Image) (v : Version) : campaign_covers x v = Q_fits x v := by
  unfold campaign_covers Q_fits
  have h : (fun y0 => campaign_covers_1x y0 v) = (fun y0 => Q_fits_1x y0 v) := by
    funext y
    unfold campaign_covers_1x Q_fits_1x campaign_covers_1x_j1 Q_fits_1x_j1
    simp only [vCompare_eq, vOrder_eq]
  rw [h]
def coverB (v : Version) (r : Range) : Bool := decide (vcmp r.Low v ≤ 0) && decide (vcmp v r.High ≤ 0)
theorem Qfits_eq (x : Image) (v : Version) (h : x.From.length ≤ 1000000) : Q_fits x v = some (x.From.any (coverB v)) := by
  unfold Q_fits
  have e : slices_ContainsFunc_Range_Range x.From (fun y0 => Q_fits_1x y0 v) = some (x.From.any (coverB v)) := gContainsFunc_eq x.From _ (coverB v) (fun r _ => by
    unfold Q_fits_1x Q_fits_1x_j1 coverB
    simp only [vOrder_eq, Option.bind_some]
    by_cases c : vcmp r.Low v ≤ 0
    · rw [if_pos c]; simp [c]
    · rw [if_neg c]; simp [c]) (by omega)
  rw [e]; rfl
theorem rangesFault_eq (x : Image) : campaign_rangesFault x = Q_rangesFault x := by
  unfold campaign_rangesFault Q_rangesFault
  split
  · rfl
  · unfold campaign_rangesFault_l1 Q_rangesFault_l1
    refine iter_same (fun i => ?_) 0
    unfold campaign_rangesFault_b1 Q_rangesFault_b1
    split
    · congr 1; funext r
      have s0 : Q_rangesFault_b2 x i r 0 = if verB r.Low = true then some (.inl 1) else some (.inr (.inr 1)) := by
        unfold Q_rangesFault_b2
        rw [if_pos (by simp)]
        have e1 : idx [r.Low, r.High] 0 = some r.Low := rfl
        rw [e1]
        simp only [Option.bind_some, Qver_eq]
        rw [w64_in (by omega) (by omega)]
        cases verB r.Low <;> rfl
      have s1 : Q_rangesFault_b2 x i r 1 = if verB r.High = true then some (.inl 2) else some (.inr (.inr 1)) := by
        unfold Q_rangesFault_b2
        rw [if_pos (by simp)]
        have e1 : idx [r.Low, r.High] 1 = some r.High := rfl
        rw [e1]
        simp only [Option.bind_some, Qver_eq]
        rw [w64_in (by omega) (by omega)]
        cases verB r.High <;> rfl
      have s2 : Q_rangesFault_b2 x i r 2 = Option.map .inr (Q_rangesFault_k2 x i r) := by
        unfold Q_rangesFault_b2
        rw [if_neg (by simp)]
      unfold Q_rangesFault_l2
      rw [iter_eq, s0, Version_chk, Version_chk]
      unfold campaign_rangesFault_j1
      cases h1 : verB r.Low with
      | false => simp [after]
      | true =>
        simp only [Bool.not_true, Bool.false_eq_true, if_false, if_true, Option.bind_some, after_inl]
        rw [iter_eq, s1]
        cases h2 : verB r.High with
        | false => simp [after]
        | true =>
          simp only [Bool.not_true, Bool.false_eq_true, if_false, if_true, Option.bind_some, after_inl]
          rw [iter_eq, s2, map_inr_after]
          unfold Q_rangesFault_k2 campaign_rangesFault_j2 Q_rangesFault_j1
          simp only [vCompare_eq, vOrder_eq, Option.bind_some]
          by_cases c : (0 : Int) < vcmp r.Low r.High
          · simp [c]
          · simp only [c, decide_false, Bool.false_eq_true, if_false]
    · unfold campaign_rangesFault_k3 Q_rangesFault_k3
      rw [fits_eq]
theorem Images_chk (xs : List Image) : campaign_CheckImages xs = Q_ImagesFault xs := by
  unfold campaign_CheckImages Q_ImagesFault
  split
  · rfl
  · unfold campaign_CheckImages_l1 Q_ImagesFault_l1
    refine iter_same (fun i => ?_) 0
    have j1 : ∀ (x : Image) (c : Bool), campaign_CheckImages_j1 i x c = Q_ImagesFault_j1 i x c := by
      intro x c
      unfold campaign_CheckImages_j1 Q_ImagesFault_j1
      split
      · rfl
      · split
        · rfl
        · split
          · rfl
          · unfold campaign_CheckImages_l2 Q_ImagesFault_l2
            refine iter_same (fun k => ?_) 0
            unfold campaign_CheckImages_b2 Q_ImagesFault_b2 campaign_CheckImages_j2 Q_ImagesFault_j2
            split
            · congr 1; funext m
              rw [Key_eq, QKey_eq]
            · unfold campaign_CheckImages_k3 Q_ImagesFault_k3
              rw [rangesFault_eq, Out_eq, Qin_eq]
              congr 2; funext e
              split
              · rfl
              · have : (decide (x.Size < 1) || decide (1000000000 < x.Size)) = !(decide (1 ≤ x.Size) && decide (x.Size ≤ 1000000000)) := by
                  rw [Bool.eq_iff_iff]; simp <;> omega
                rw [this]
    unfold campaign_CheckImages_b1 Q_ImagesFault_b1
    split
    · congr 1; funext x
      rw [Version_chk, Qver_eq]
      cases h : verB x.Version with
      | false => simp
      | true =>
        simp only [Bool.not_true, Bool.false_eq_true, if_false, if_true, ne_eq, not_true_eq_false]
        split
        · congr 1; funext y
          simp only [vCompare_eq, vOrder_eq, Option.bind_some]
          rw [j1, vcmp_neg]
          congr 1
          rw [decide_eq_decide]; omega
        · exact j1 x false
    · rfl
/-- Images whose lists are short. -/
def ImgB (x : Image) : Prop := x.Models.length ≤ 10 ∧ x.From.length ≤ 10
def ImgsB (xs : List Image) : Prop := xs.length ≤ 8 ∧ ∀ x ∈ xs, ImgB x
theorem ranges_ends (x : Image) (hx : ImgB x) : Ok (campaign_rangesFault x) (fun _ => True) := by
  have hl := hx.2
  unfold campaign_rangesFault
  rw [if_neg (by omega)]
  unfold campaign_rangesFault_l1
  refine Ok.range x.From.length (fun i h0 h1 => ?_)
  unfold campaign_rangesFault_b1 campaign_rangesFault_j1 campaign_rangesFault_j2
  have w1 : w64 (i + 1) = i + 1 := w64_in (by omega) (by omega)
  have w2 : w64 (i - 1) = i - 1 := w64_in (by omega) (by omega)
  simp only [vCompare_eq, w1, w2, if_true, Option.bind_some]
  split
  · refine Ok.idx h0 (by assumption) (fun r hr hm => ?_)
    split
    · exact Ok.inr (Ok.ret trivial)
    · split
      · exact Ok.inr (Ok.ret trivial)
      · split
        · exact Ok.inr (Ok.ret trivial)
        · split
          · refine Ok.idx (by omega) (by omega) (fun q hq hqm => ?_)
            split
            · exact Ok.inr (Ok.ret trivial)
            · exact Ok.ret ⟨rfl, by assumption⟩
          · simp only [Bool.false_eq_true, if_false]; exact Ok.ret ⟨rfl, by assumption⟩
  · refine Ok.inr ?_
    unfold campaign_rangesFault_k3
    rw [fits_eq]
    refine Ok.is (Qfits_eq x x.Version (by omega)) ?_
    split
    · exact Ok.ret trivial
    · exact Ok.ret trivial
theorem Images_ends (xs : List Image) (hx : ImgsB xs) : Ok (campaign_CheckImages xs) (fun _ => True) := by
  have hl := hx.1
  unfold campaign_CheckImages
  rw [if_neg (by omega)]
  unfold campaign_CheckImages_l1
  refine Ok.range xs.length (fun i h0 h1 => ?_)
  have w1 : w64 (i + 1) = i + 1 := w64_in (by omega) (by omega)
  have w2 : w64 (i - 1) = i - 1 := w64_in (by omega) (by omega)
  have j1 : ∀ (x : Image) (c : Bool), ImgB x → i < xs.length → Ok (campaign_CheckImages_j1 i x c) (Rng xs.length (fun _ => True) i) := by
    intro x c hb hi
    unfold campaign_CheckImages_j1
    have hm := hb.1
    split
    · exact Ok.inr (Ok.ret trivial)
    · split
      · exact Ok.inr (Ok.ret trivial)
      · split
        · exact Ok.inr (Ok.ret trivial)
        · unfold campaign_CheckImages_l2
          refine Ok.range x.Models.length (fun k g0 g1 => ?_)
          unfold campaign_CheckImages_b2 campaign_CheckImages_j2
          have w3 : w64 (k + 1) = k + 1 := w64_in (by omega) (by omega)
          have w4 : w64 (k - 1) = k - 1 := w64_in (by omega) (by omega)
          simp only [w3, w4, Key_eq, Option.bind_some]
          split
          · refine Ok.idx g0 (by assumption) (fun m hm _ => ?_)
            split
            · exact Ok.inr (Ok.inr (Ok.ret trivial))
            · split
              · refine Ok.idx (by omega) (by omega) (fun q hq _ => ?_)
                split
                · exact Ok.inr (Ok.inr (Ok.ret trivial))
                · exact Ok.ret ⟨rfl, by assumption⟩
              · simp only [Bool.false_eq_true, if_false]; exact Ok.ret ⟨rfl, by assumption⟩
          · refine Ok.inr ?_
            unfold campaign_CheckImages_k3
            refine Ok.bind (ranges_ends x hb) (fun e _ => ?_)
            split
            · exact Ok.inr (Ok.ret trivial)
            · split
              · exact Ok.inr (Ok.ret trivial)
              · rw [w1]; exact Ok.ret ⟨rfl, hi⟩
  unfold campaign_CheckImages_b1
  simp only [vCompare_eq, w2, Option.bind_some]
  split
  · refine Ok.idx h0 (by assumption) (fun x hx' hm => ?_)
    split
    · exact Ok.inr (Ok.ret trivial)
    · split
      · refine Ok.idx (by omega) (by omega) (fun q hq _ => ?_)
        exact j1 x _ (hx.2 x hm) (by assumption)
      · exact j1 x _ (hx.2 x hm) (by assumption)
  · exact Ok.inr (Ok.ret trivial)
/-! texts -/
def verT (v : Version) : Str := Lib.itoa v.Major ++ [46] ++ Lib.itoa v.Minor ++ [46] ++ Lib.itoa v.Patch
theorem verT_eq (v : Version) (h : verB v = true) : Q_VersionLine v = some (verT v) ∧ (verT v).length ≤ 65 := by
  unfold verB at h
  simp at h
  have a1 := Lib.itoa_length_le v.Major (by omega) (by omega)
  have a2 := Lib.itoa_length_le v.Minor (by omega) (by omega)
  have a3 := Lib.itoa_length_le v.Patch (by omega) (by omega)
  constructor
  · unfold Q_VersionLine verT
    rw [itoa_in (by omega) (by omega), itoa_in (by omega) (by omega), itoa_in (by omega) (by omega)]
    simp only [Option.bind_some]
    rw [cat_le (by simp; omega)]
    simp only [Option.bind_some]
    rw [cat_le (by simp; omega)]
    simp only [Option.bind_some]
    rw [cat_le (by simp; omega)]
    simp only [Option.bind_some]
    rw [cat_le (by simp; omega)]
    rfl
  · unfold verT; simp; omega
theorem vText_eq (v : Version) : campaign_VersionText v = some (if verB v = true then (verT v, 0) else ([], 1)) := by
  unfold campaign_VersionText
  rw [ver_eq]
  by_cases h : verB v = true
  · rw [if_pos h, if_pos h, if_neg (by simp)]
    have e : campaign_VersionText v = (Q_VersionLine v).bind fun q => some (q, (0 : Int)) := by
      unfold campaign_VersionText Q_VersionLine
      rw [ver_eq, if_pos h, if_neg (by simp)]
      simp only [Option.bind_assoc, Option.bind_some]
    unfold campaign_VersionText at e
    rw [ver_eq, if_pos h, if_neg (by simp)] at e
    rw [e, (verT_eq v h).1]; rfl
  · rw [if_neg h, if_neg h, if_pos (by simp)]
/-- Several numbers. -/
def numsT (k : Int) : List Str → Option (List Int)
  | [] => some []
  | w :: r => match numT w k, numsT k r with
    | some n, some l => some (n :: l)
    | _, _ => none
theorem Numbers_loop (ws : List Str) (k : Nat) (hk : k ≤ 17) (hl : ws.length ≤ 100000000) : ∀ (m : Nat) (l : List Int) (i : Int), 0 ≤ i → i + m = ws.length → (l.length : Int) = i →
    base_Numbers_l1 ws k l i = some (match numsT k (ws.drop i.toNat) with | some r => (l ++ r, true) | none => ([], false))
  | 0, l, i, h0, hm, he => by
    unfold base_Numbers_l1
    rw [iter_eq, base_Numbers_b1, if_neg (by simp only; omega), map_inr_after, List.drop_of_length_le (by omega)]
    simp [numsT]
  | m + 1, l, i, h0, hm, he => by
    have ih := Numbers_loop ws k hk hl m
    unfold base_Numbers_l1 at ih ⊢
    obtain ⟨w, hw, _, hd⟩ := idx_lt ws h0 (by omega)
    rw [iter_eq, base_Numbers_b1, if_pos (by simp only; omega)]
    simp only [hw, Option.bind_some]
    rw [Number_eq w k hk, hd, numsT]
    simp only [Option.bind_some]
    cases hn : numT w k with
    | none => simp [after]
    | some n =>
      simp only [Bool.not_true, Bool.false_eq_true, if_false]
      rw [app_le (by simp; omega)]
      simp only [Option.bind_some, after_inl]
      rw [w64_in (by omega) (by omega), ih (l ++ [n]) (i + 1) (by omega) (by omega) (by simp; omega)]
      cases numsT k (ws.drop (i + 1).toNat) with
      | none => rfl
      | some r => simp
theorem Numbers_eq (ws : List Str) (k : Nat) (hk : k ≤ 17) (hl : ws.length ≤ 100000000) : base_Numbers ws k = some (match numsT k ws with | some r => (r, true) | none => ([], false)) := by
  unfold base_Numbers
  rw [Numbers_loop ws k hk hl ws.length [] 0 (by omega) (by omega) (by simp)]
  simp
theorem numsT_length {k : Int} : ∀ {ws : List Str} {l : List Int}, numsT k ws = some l → l.length = ws.length
  | [], l, h => by simp [numsT] at h; subst h; rfl
  | w :: r, l, h => by
    rw [numsT] at h
    cases h1 : numT w k with
    | none => rw [h1] at h; simp at h
    | some n =>
      cases h2 : numsT k r with
      | none => rw [h1, h2] at h; simp at h
      | some t =>
        rw [h1, h2] at h
        simp at h; subst h
        simp [numsT_length h2]
/-- The version that a string spells. -/
def verOf (s : Str) : Option Version := match numsT 4 (splitC 46 s) with
  | some [x, y, z] => if 0 ≤ x ∧ 0 ≤ y ∧ 0 ≤ z then some ⟨x, y, z⟩ else none
  | _ => none
theorem len3 {α : Type} : ∀ {l : List α}, l.length = 3 → ∃ a b c, l = [a, b, c]
  | [a, b, c], _ => ⟨a, b, c, rfl⟩
theorem verOf_no {s : Str} (h : (splitC 46 s).length ≠ 3) : verOf s = none := by
  unfold verOf
  split
  · rename_i e; exact absurd (numsT_length e).symm h
  · rfl
theorem numsT_bound {k : Nat} : ∀ {ws : List Str} {l : List Int}, numsT k ws = some l → ∀ x ∈ l, -(10 ^ k : Nat) < x ∧ x < (10 ^ k : Nat)
  | [], l, h => by simp [numsT] at h; subst h; simp
  | w :: r, l, h => by
    rw [numsT] at h
    cases h1 : numT w k with
    | none => rw [h1] at h; simp at h
    | some n =>
      cases h2 : numsT k r with
      | none => rw [h1, h2] at h; simp at h
      | some t =>
        rw [h1, h2] at h
        simp only [Option.some.injEq] at h; subst h
        intro x hx
        rcases List.mem_cons.1 hx with rfl | hx
        · exact numT_bound h1
        · exact numsT_bound h2 x hx
theorem Parse_eq (s : Str) (hs : s.length ≤ 1000000) : campaign_ParseVersion s = some (match verOf s with | some v => (v, 0) | none => (⟨0, 0, 0⟩, 9)) := by
  unfold campaign_ParseVersion
  have hl := splitC_length 46 s
  rw [splitO_eq (by omega)]
  simp only [Option.bind_some]
  rw [show (4 : Int) = ((4 : Nat) : Int) from rfl, Numbers_eq _ 4 (by omega) (by omega)]
  simp only [Option.bind_some]
  unfold campaign_ParseVersion_j1 verOf
  rw [show (4 : Int) = ((4 : Nat) : Int) from rfl]
  generalize hN : numsT ((4 : Nat) : Int) (splitC 46 s) = o
  cases o with
  | none => rfl
  | some l =>
    by_cases h3 : l.length = 3
    · obtain ⟨x, y, z, rfl⟩ := len3 h3
      have bd := numsT_bound hN
      have bx := bd x (by simp)
      have by_ := bd y (by simp)
      have bz := bd z (by simp)
      simp only [Bool.not_true, Bool.false_or]
      rw [if_neg (by simp)]
      have e0 : idx [x, y, z] 0 = some x := rfl
      have e1 : idx [x, y, z] 1 = some y := rfl
      have e2 : idx [x, y, z] 2 = some z := rfl
      rw [e0, e1, e2]
      simp only [Option.bind_some, Version_chk]
      by_cases hp : 0 ≤ x ∧ 0 ≤ y ∧ 0 ≤ z
      · rw [if_pos hp, if_neg]
        unfold verB; simp; omega
      · rw [if_neg hp, if_pos]
        unfold verB; simp; omega
    · simp only
      rw [if_pos (by simp; omega)]
      split
      · rename_i v e
        split at e
        · rename_i e2; obtain rfl := Option.some.inj e2; simp at h3
        · cases e
      · rfl
theorem QOf_step {ws : List Str} (h3 : ws.length = 3) {l : List Int} {i : Nat} (hl : l.length = 3) (hi : i < 3) {w : Str} (hw : ws[i]? = some w) : Q_VersionOf_b1 ws l (i : Int) = match numT w 4 with
    | some n => if n < 0 then some (.inr (⟨0, 0, 0⟩, 9)) else some (.inl (l.set i n, (i : Int) + 1))
    | none => some (.inr (⟨0, 0, 0⟩, 9)) := by
  unfold Q_VersionOf_b1
  have e1 : idx ws (i : Int) = some w := by unfold idx; rw [if_pos (by omega)]; simpa using hw
  obtain ⟨m, hm1, hm2⟩ := QNumber_eq w 4 (by omega)
  rw [show ((4 : Nat) : Int) = 4 from rfl] at hm1 hm2
  rw [if_pos (by omega), e1]
  simp only [Option.bind_some]
  rw [hm1]
  simp only [Option.bind_some]
  have e2 : ∀ l : List Int, l.length = 3 → ∃ x, idxA 3 l (i : Int) = some x ∧ l[i]? = some x := by
    intro l hl
    have hlt : i < l.length := by omega
    refine ⟨l[i], ?_, by simp [hlt]⟩
    unfold idxA idx
    rw [if_pos (by omega), if_pos (by omega)]; simp [hlt]
  obtain ⟨x, hx, _⟩ := e2 l hl
  rw [hx]
  simp only [Option.bind_some]
  unfold Q_VersionOf_j1
  cases hn : numT w 4 with
  | none => simp
  | some n =>
    obtain rfl := hm2 n hn
    simp only [Option.isSome_some, Bool.not_true, Bool.false_eq_true, if_false]
    obtain ⟨y, hy, hy'⟩ := e2 (l.set i m) (by simp [hl])
    have : y = m := by
      rw [List.getElem?_set_self (by omega)] at hy'
      exact (Option.some.inj hy').symm
    subst this
    rw [Int.toNat_natCast, hy]
    simp only [Option.bind_some]
    rw [w64_in (by omega) (by omega)]
    by_cases hneg : y < 0
    · simp [hneg]
    · simp [hneg]
theorem QOf_eq (s : Str) (hs : s.length ≤ 1000000) : Q_VersionOf s = some (match verOf s with | some v => (v, 0) | none => (⟨0, 0, 0⟩, 9)) := by
  unfold Q_VersionOf
  have hl := splitC_length 46 s
  rw [splitO_eq (by omega)]
  simp only [Option.bind_some]
  by_cases h3 : (splitC 46 s).length = 3
  · rw [if_neg (by omega)]
    obtain ⟨a, b, c, e⟩ := len3 h3
    unfold verOf
    rw [e]
    simp only [numsT]
    unfold Q_VersionOf_l1
    have s0 := QOf_step (ws := [a, b, c]) rfl (l := [0, 0, 0]) (i := 0) rfl (by omega) (w := a) rfl
    rw [show ((0 : Nat) : Int) = 0 from rfl] at s0
    rw [iter_eq]
    simp only
    rw [s0]
    cases ha : numT a 4 with
    | none => simp [after]
    | some x =>
      simp only
      by_cases hx : x < 0
      · rw [if_pos hx]
        have : ¬ (0 ≤ x) := by omega
        cases hb : numT b 4 <;> cases hc : numT c 4 <;> simp [after, this]
      · rw [if_neg hx]
        simp only [Option.bind_some, after_inl]
        have s1 := QOf_step (ws := [a, b, c]) rfl (l := [x, 0, 0]) (i := 1) rfl (by omega) (w := b) rfl
        rw [show ((1 : Nat) : Int) = 1 from rfl] at s1
        rw [iter_eq]
        simp only [List.set_cons_zero, Int.zero_add]
        rw [s1]
        cases hb : numT b 4 with
        | none => simp [after]
        | some y =>
          simp only
          by_cases hy : y < 0
          · rw [if_pos hy]
            have : ¬ (0 ≤ y) := by omega
            cases hc : numT c 4 <;> simp [after, this]
          · rw [if_neg hy]
            simp only [Option.bind_some, after_inl]
            have s2 := QOf_step (ws := [a, b, c]) rfl (l := [x, y, 0]) (i := 2) rfl (by omega) (w := c) rfl
            rw [show ((2 : Nat) : Int) = 2 from rfl] at s2
            rw [iter_eq]
            simp only [List.set_cons_zero, List.set_cons_succ]
            rw [show (1 : Int) + 1 = 2 from rfl, s2]
            cases hc : numT c 4 with
            | none => simp [after]
            | some z =>
              simp only
              by_cases hz : z < 0
              · rw [if_pos hz, if_neg (by omega)]; rfl
              · rw [if_neg hz, if_pos (by omega)]
                simp only [Option.bind_some, after_inl, List.set_cons_zero, List.set_cons_succ]
                rw [iter_eq, Q_VersionOf_b1, if_neg (by simp), map_inr_after]
                rfl
  · rw [if_pos (by omega), verOf_no h3]
theorem versioned_eq : L_versioned = some true := by
  unfold L_versioned
  rw [Parse_eq _ (by simp)]
  have h : verOf [49, 46, 50, 46, 51] = some ⟨1, 2, 3⟩ := by
    have e : splitC 46 [49, 46, 50, 46, 51] = [[49], [50], [51]] := by decide
    have i1 : Lib.itoa 1 = [49] := by unfold Lib.itoa; rw [if_neg (by omega), Lib.decDigits, dif_pos (by decide)]; rfl
    have i2 : Lib.itoa 2 = [50] := by unfold Lib.itoa; rw [if_neg (by omega), Lib.decDigits, dif_pos (by decide)]; rfl
    have i3 : Lib.itoa 3 = [51] := by unfold Lib.itoa; rw [if_neg (by omega), Lib.decDigits, dif_pos (by decide)]; rfl
    have n1 := numT_itoa (n := 1) (k := 4) (by rw [Lib.decDigits, dif_pos (by decide)]; simp)
    have n2 := numT_itoa (n := 2) (k := 4) (by rw [Lib.decDigits, dif_pos (by decide)]; simp)
    have n3 := numT_itoa (n := 3) (k := 4) (by rw [Lib.decDigits, dif_pos (by decide)]; simp)
    rw [i1] at n1; rw [i2] at n2; rw [i3] at n3
    unfold verOf
    rw [e]
    simp [numsT, n1, n2, n3]
  rw [h]
  simp [L_versioned_j1]
end Go.Beacon
