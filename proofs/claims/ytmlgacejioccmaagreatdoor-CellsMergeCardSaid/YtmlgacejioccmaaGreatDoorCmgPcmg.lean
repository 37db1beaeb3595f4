/- Merging cells: side by side, or by a map over all in order of their stamps. No program in sight. -/
import Derived.Test.YtmlgacejioccmaaGreatDoorCmgPvis
import Derived.Test.YtmlgacejioccmaaGreatDoorPmap
set_option linter.unusedVariables false
set_option linter.unusedSimpArgs false
namespace Go.Beacon
open Go Go.Eng

theorem stO_3 : Cmp3 stO := Cmp3.lex (cmpI_3.on Stamp.At) (Cmp3.lex (cmpB_3.on Stamp.By) (cmpI_3.on Stamp.No))
theorem cmpI_zeroS {a b : Int} (h : cmpI a b = 0) : a = b := by
  unfold cmpI at h
  split at h
  · omega
  · split at h
    · omega
    · omega
theorem stO_zero {a b : Stamp} (h : stO a b = 0) : a = b := by
  unfold stO at h
  by_cases h1 : cmpI a.At b.At = 0
  · rw [if_neg (by simpa using h1)] at h
    by_cases h2 : Lib.compareBytes a.By b.By = 0
    · rw [if_neg (by simpa using h2)] at h
      cases a; cases b
      simp only at h h1 h2
      rw [cmpI_zeroS h, cmpI_zeroS h1, cmpB_zero h2]
    · rw [if_pos h2] at h; exact absurd h h2
  · rw [if_pos h1] at h; exact absurd h h1
/-- Of two cells of a name the one with the greater stamp. -/
def newer (x y : Cell) : Cell := if 0 ≤ stO x.Stamp y.Stamp then x else y
/-- Both lists side by side; nothing where they conflict. -/
def jn : List Cell → List Cell → Option (List Cell)
  | [], b => some b
  | x :: a, [] => some (x :: a)
  | x :: a, y :: b =>
    if Lib.compareBytes (cN x) (cN y) < 0 then (jn a (y :: b)).map (x :: ·)
    else if 0 < Lib.compareBytes (cN x) (cN y) then (jn (x :: a) b).map (y :: ·)
    else if stO x.Stamp y.Stamp = 0 ∧ x.Prop_.Value ≠ y.Prop_.Value then none
    else (jn a b).map (newer x y :: ·)
termination_by a b => a.length + b.length
def comb : Option Cell → Option Cell → Option Cell
  | none, y => y
  | some x, none => some x
  | some x, some y => some (newer x y)
/-- They conflict at a name. -/
def clash : Option Cell → Option Cell → Prop
  | some x, some y => stO x.Stamp y.Stamp = 0 ∧ x.Prop_.Value ≠ y.Prop_.Value
  | _, _ => False
theorem gt_lt {x : Cell} {L : List Cell} (h : SId cN (x :: L)) {k : Str} (hk : Lib.compareBytes k (cN x) < 0) : gt cN (x :: L) k = none := SId.none_lt cN h hk
theorem cmp_irr (s : Str) : ¬ Lib.compareBytes s s < 0 := by rw [cmpB_self]; omega
theorem jn_spec : ∀ (n : Nat) (a b : List Cell), a.length + b.length ≤ n → SId cN a → SId cN b →
    (jn a b = none ∧ ∃ k, clash (gt cN a k) (gt cN b k)) ∨ (∃ r, jn a b = some r ∧ (∀ k, ¬ clash (gt cN a k) (gt cN b k)) ∧ SId cN r ∧ (∀ k, gt cN r k = comb (gt cN a k) (gt cN b k)) ∧ r.length ≤ a.length + b.length)
  | n, [], b, hn, ha, hb => by
    right
    refine ⟨b, by rw [jn], fun k h => h, hb, fun k => rfl, by simp⟩
  | n, x :: a, [], hn, ha, hb => by
    right
    refine ⟨x :: a, by rw [jn], fun k h => ?_, ha, fun k => ?_, by simp⟩
    · revert h; rw [gt_nil]; cases gt cN (x :: a) k <;> exact fun h => h
    · rw [gt_nil]; cases gt cN (x :: a) k <;> rfl
  | 0, x :: a, y :: b, hn, ha, hb => by simp at hn
  | n + 1, x :: a, y :: b, hn, ha, hb => by
    have ha1 := List.pairwise_cons.1 ha
    have hb1 := List.pairwise_cons.1 hb
    have hneg := cmpB_neg (cN x) (cN y)
    simp only [List.length_cons] at hn
    rcases Int.lt_trichotomy (Lib.compareBytes (cN x) (cN y)) 0 with h | h | h
    · have ih := jn_spec n a (y :: b) (by simp only [List.length_cons]; omega) ha1.2 hb
      have hyx : gt cN (y :: b) (cN x) = none := gt_lt hb h
      have hxa : gt cN a (cN x) = none := (gt_none cN).2 (fun z hz e => by have := ha1.1 z hz; rw [e] at this; exact cmp_irr _ this)
      rcases ih with ⟨i1, k, i2⟩ | ⟨r, i1, i2, i3, i4, i5⟩
      · left
        refine ⟨by rw [jn, if_pos h, i1]; rfl, k, ?_⟩
        rw [gt_cons]
        by_cases e : cN x = k
        · subst e; rw [hxa] at i2; exact absurd i2 (fun h => h)
        · rw [if_neg e]; exact i2
      · right
        refine ⟨x :: r, by rw [jn, if_pos h, i1]; rfl, fun k hk => ?_, ?_, fun k => ?_, by simp only [List.length_cons] at i5 ⊢; omega⟩
        · rw [gt_cons] at hk
          by_cases e : cN x = k
          · subst e; rw [if_pos rfl, hyx] at hk; exact hk
          · rw [if_neg e] at hk; exact i2 k hk
        · refine List.pairwise_cons.2 ⟨fun z hz => ?_, i3⟩
          have hzk : gt cN r (cN z) = some z := gt_mem cN (SId.ne cN i3) hz
          rw [i4] at hzk
          cases ga : gt cN a (cN z) with
          | some u =>
            obtain ⟨gu, gn⟩ := gt_some cN ga
            rw [← gn]; exact ha1.1 u gu
          | none =>
            rw [ga] at hzk
            have hzb : gt cN (y :: b) (cN z) = some z := hzk
            have hm := (gt_some cN hzb).1
            rcases List.mem_cons.1 hm with e | e
            · rw [e]; exact h
            · exact cmpB_tr h (hb1.1 z e)
        · rw [gt_cons, gt_cons]
          by_cases e : cN x = k
          · subst e; rw [if_pos rfl, if_pos rfl, hyx]; rfl
          · rw [if_neg e, if_neg e]; exact i4 k
    · have hxy : cN x = cN y := cmpB_zero h
      have hxa : gt cN a (cN x) = none := (gt_none cN).2 (fun z hz e => by have := ha1.1 z hz; rw [e] at this; exact cmp_irr _ this)
      have hyb : gt cN b (cN x) = none := (gt_none cN).2 (fun z hz e => by have := hb1.1 z hz; rw [e, hxy] at this; exact cmp_irr _ this)
      have gx : gt cN (x :: a) (cN x) = some x := by rw [gt_cons, if_pos rfl]
      have gy : gt cN (y :: b) (cN x) = some y := by rw [gt_cons, if_pos hxy.symm]
      by_cases hc : stO x.Stamp y.Stamp = 0 ∧ x.Prop_.Value ≠ y.Prop_.Value
      · left
        refine ⟨by rw [jn, if_neg (by omega), if_neg (by omega), if_pos hc], cN x, ?_⟩
        rw [gx, gy]; exact hc
      · have ih := jn_spec n a b (by omega) ha1.2 hb1.2
        have hkk : ∀ k, cN x ≠ k → gt cN (x :: a) k = gt cN a k ∧ gt cN (y :: b) k = gt cN b k := fun k e =>
          ⟨by rw [gt_cons, if_neg e], by rw [gt_cons, if_neg (by rw [← hxy]; exact e)]⟩
        rcases ih with ⟨i1, k, i2⟩ | ⟨r, i1, i2, i3, i4, i5⟩
        · left
          refine ⟨by rw [jn, if_neg (by omega), if_neg (by omega), if_neg hc, i1]; rfl, k, ?_⟩
          by_cases e : cN x = k
          · subst e; rw [hxa] at i2; exact absurd i2 (fun h => h)
          · rw [(hkk k e).1, (hkk k e).2]; exact i2
        · right
          have hnw : cN (newer x y) = cN x := by
            unfold newer
            split
            · rfl
            · exact hxy.symm
          refine ⟨newer x y :: r, by rw [jn, if_neg (by omega), if_neg (by omega), if_neg hc, i1]; rfl, fun k hk => ?_, ?_, fun k => ?_, by simp only [List.length_cons]; omega⟩
          · by_cases e : cN x = k
            · subst e; rw [gx, gy] at hk; exact hc hk
            · rw [(hkk k e).1, (hkk k e).2] at hk; exact i2 k hk
          · refine List.pairwise_cons.2 ⟨fun z hz => ?_, i3⟩
            rw [hnw]
            have hzk : gt cN r (cN z) = some z := gt_mem cN (SId.ne cN i3) hz
            rw [i4] at hzk
            cases ga : gt cN a (cN z) with
            | some u =>
              obtain ⟨gu, gn⟩ := gt_some cN ga
              rw [← gn]; exact ha1.1 u gu
            | none =>
              rw [ga] at hzk
              have hzb : gt cN b (cN z) = some z := hzk
              rw [hxy]; exact hb1.1 z (gt_some cN hzb).1
          · rw [gt_cons]
            by_cases e : cN x = k
            · subst e; rw [if_pos hnw, gx, gy]; rfl
            · rw [if_neg (by rw [hnw]; exact e), (hkk k e).1, (hkk k e).2]; exact i4 k
    · have hyx : Lib.compareBytes (cN y) (cN x) < 0 := by omega
      have ih := jn_spec n (x :: a) b (by simp only [List.length_cons]; omega) ha hb1.2
      have hxy : gt cN (x :: a) (cN y) = none := gt_lt ha hyx
      have hyb : gt cN b (cN y) = none := (gt_none cN).2 (fun z hz e => by have := hb1.1 z hz; rw [e] at this; exact cmp_irr _ this)
      rcases ih with ⟨i1, k, i2⟩ | ⟨r, i1, i2, i3, i4, i5⟩
      · left
        refine ⟨by rw [jn, if_neg (by omega), if_pos h, i1]; rfl, k, ?_⟩
        rw [gt_cons cN y]
        by_cases e : cN y = k
        · subst e; rw [hyb] at i2; revert i2; cases gt cN (x :: a) (cN y) <;> exact fun h => absurd h (fun h => h)
        · rw [if_neg e]; exact i2
      · right
        refine ⟨y :: r, by rw [jn, if_neg (by omega), if_pos h, i1]; rfl, fun k hk => ?_, ?_, fun k => ?_, by simp only [List.length_cons] at i5 ⊢; omega⟩
        · rw [gt_cons cN y] at hk
          by_cases e : cN y = k
          · subst e; rw [hxy] at hk; exact hk
          · rw [if_neg e] at hk; exact i2 k hk
        · refine List.pairwise_cons.2 ⟨fun z hz => ?_, i3⟩
          have hzk : gt cN r (cN z) = some z := gt_mem cN (SId.ne cN i3) hz
          rw [i4] at hzk
          cases ga : gt cN (x :: a) (cN z) with
          | some u =>
            obtain ⟨gu, gn⟩ := gt_some cN ga
            rw [← gn]
            rcases List.mem_cons.1 gu with e | e
            · rw [e]; exact hyx
            · exact cmpB_tr hyx (ha1.1 u e)
          | none =>
            rw [ga] at hzk
            have hzb : gt cN b (cN z) = some z := hzk
            exact hb1.1 z (gt_some cN hzb).1
        · rw [gt_cons cN y, gt_cons cN y]
          by_cases e : cN y = k
          · subst e; rw [if_pos rfl, if_pos rfl, hxy]; rfl
          · rw [if_neg e, if_neg e]; exact i4 k
/-! the reference: a map of the last cell of each name -/
def bad1 (m : List (Str × Cell)) (c : Cell) : Bool := match mget? m (cN c) with
  | some o => decide (stO o.Stamp c.Stamp = 0) && decide (o ≠ c)
  | none => false
def lp : List (Str × Cell) → List Cell → Option (List (Str × Cell))
  | m, [] => some m
  | m, c :: T => if bad1 m c = true then none else lp (mset m (cN c) c) T
def cfl : Option Cell → List Cell → Prop
  | _, [] => False
  | o, c :: T => (∃ z, o = some z ∧ stO z.Stamp c.Stamp = 0 ∧ z ≠ c) ∨ cfl (some c) T
def lastO : Option Cell → List Cell → Option Cell
  | o, [] => o
  | _, c :: T => lastO (some c) T
theorem bad1_iff (m : List (Str × Cell)) (c : Cell) : bad1 m c = true ↔ ∃ z, mget? m (cN c) = some z ∧ stO z.Stamp c.Stamp = 0 ∧ z ≠ c := by
  unfold bad1
  cases mget? m (cN c) with
  | none => simp
  | some o => simp
/-- The cells of a name. -/
abbrev ofN (S : List Cell) (k : Str) : List Cell := S.filter (fun c => decide (cN c = k))
theorem lp_spec : ∀ (S : List Cell) (m : List (Str × Cell)), (lp m S = none ∧ ∃ k, cfl (mget? m k) (ofN S k)) ∨ (∃ m', lp m S = some m' ∧ (∀ k, ¬ cfl (mget? m k) (ofN S k)) ∧ ∀ k, mget? m' k = lastO (mget? m k) (ofN S k))
  | [], m => .inr ⟨m, rfl, fun k h => h, fun k => rfl⟩
  | c :: T, m => by
    have f1 : ofN (c :: T) (cN c) = c :: ofN T (cN c) := List.filter_cons_of_pos (by simp)
    have f2 : ∀ k, cN c ≠ k → ofN (c :: T) k = ofN T k := fun k e => List.filter_cons_of_neg (by simpa using e)
    by_cases hb : bad1 m c = true
    · left
      refine ⟨by rw [lp, if_pos hb], cN c, ?_⟩
      rw [f1]
      exact .inl ((bad1_iff m c).1 hb)
    · have ih := lp_spec T (mset m (cN c) c)
      have g1 : mget? (mset m (cN c) c) (cN c) = some c := by rw [mget_mset, if_pos rfl]
      have g2 : ∀ k, cN c ≠ k → mget? (mset m (cN c) c) k = mget? m k := fun k e => by rw [mget_mset, if_neg e]
      rcases ih with ⟨i1, k, i2⟩ | ⟨m', i1, i2, i3⟩
      · left
        refine ⟨by rw [lp, if_neg hb, i1], k, ?_⟩
        by_cases e : cN c = k
        · subst e
          rw [g1] at i2
          rw [f1]
          exact .inr i2
        · rw [g2 k e] at i2
          rw [f2 k e]; exact i2
      · right
        refine ⟨m', by rw [lp, if_neg hb, i1], fun k hk => ?_, fun k => ?_⟩
        · by_cases e : cN c = k
          · subst e
            rw [f1] at hk
            rcases hk with h | h
            · exact hb ((bad1_iff m c).2 h)
            · rw [← g1] at h; exact i2 _ h
          · rw [f2 k e, ← g2 k e] at hk; exact i2 k hk
        · rw [i3 k]
          by_cases e : cN c = k
          · subst e; rw [g1, f1]; rfl
          · rw [g2 k e, f2 k e]
theorem filter_gt {a : List Cell} (h : SId cN a) (k : Str) : ofN a k = (gt cN a k).toList := by
  induction a with
  | nil => rfl
  | cons x a ih =>
    have h1 := List.pairwise_cons.1 h
    rw [gt_cons]
    by_cases e : cN x = k
    · rw [if_pos e, show ofN (x :: a) k = x :: ofN a k from List.filter_cons_of_pos (by simpa using e), ih h1.2]
      have : gt cN a k = none := (gt_none cN).2 (fun z hz e2 => by have := h1.1 z hz; rw [e, e2] at this; exact cmp_irr _ this)
      rw [this]; rfl
    · rw [if_neg e, show ofN (x :: a) k = ofN a k from List.filter_cons_of_neg (by simpa using e), ih h1.2]
theorem perm_pair {α : Type} {l : List α} {x y : α} (h : l.Perm [x, y]) : l = [x, y] ∨ l = [y, x] := by
  have hl := h.length_eq
  match l, hl with
  | [p, q], _ =>
    have hp : p ∈ [x, y] := h.mem_iff.1 (by simp)
    rcases List.mem_cons.1 hp with e | e
    · subst e
      have := (List.perm_cons p).1 h
      rw [List.perm_singleton] at this
      left; simpa using this
    · rw [List.mem_singleton] at e
      subst e
      have := (List.perm_cons p).1 (h.trans (List.Perm.swap _ _ _))
      rw [List.perm_singleton] at this
      right; simpa using this
/-- At a name both tell the same. -/
theorem at_name {a b S : List Cell} (ha : SId cN a) (hb : SId cN b) (hp : S.Perm (a ++ b)) (hs : Srt (fun x y : Cell => stO x.Stamp y.Stamp) S) (k : Str) : (cfl none (ofN S k) ↔ clash (gt cN a k) (gt cN b k)) ∧ (¬ cfl none (ofN S k) → lastO none (ofN S k) = comb (gt cN a k) (gt cN b k)) := by
  have hk : (ofN S k).Perm ((gt cN a k).toList ++ (gt cN b k).toList) := by
    rw [← filter_gt ha k, ← filter_gt hb k]
    have := hp.filter (fun c => decide (cN c = k))
    rw [List.filter_append] at this
    exact this
  have hsk : Srt (fun x y : Cell => stO x.Stamp y.Stamp) (ofN S k) := List.Pairwise.filter _ hs
  generalize ofN S k = F at hk hsk
  cases ga : gt cN a k with
  | none =>
    cases gb : gt cN b k with
    | none =>
      rw [ga, gb] at hk
      have : F = [] := List.perm_nil.1 (by simpa using hk)
      subst this
      exact ⟨Iff.rfl, fun _ => rfl⟩
    | some y =>
      rw [ga, gb] at hk
      have : F = [y] := List.perm_singleton.1 (by simpa using hk)
      subst this
      exact ⟨by simp [cfl, clash], fun _ => rfl⟩
  | some x =>
    cases gb : gt cN b k with
    | none =>
      rw [ga, gb] at hk
      have : F = [x] := List.perm_singleton.1 (by simpa using hk)
      subst this
      exact ⟨by simp [cfl, clash], fun _ => rfl⟩
    | some y =>
      rw [ga, gb] at hk
      have hk2 : F.Perm [x, y] := by simpa using hk
      have nx : x.Prop_.Name = y.Prop_.Name := by
        have h1 : cN x = k := (gt_some cN ga).2
        have h2 : cN y = k := (gt_some cN gb).2
        exact h1.trans h2.symm
      have hne : stO x.Stamp y.Stamp = 0 → (x ≠ y ↔ x.Prop_.Value ≠ y.Prop_.Value) := by
        intro h0
        have hst := stO_zero h0
        constructor
        · intro h e
          apply h
          cases x with | mk p s => cases y with | mk q t =>
          cases p; cases q
          simp only at nx hst e
          subst nx; subst hst; subst e; rfl
        · intro h e; subst e; exact h rfl
      have hneg := stO_3.neg x.Stamp y.Stamp
      rcases perm_pair hk2 with e | e
      · subst e
        have hle : ¬ stO y.Stamp x.Stamp < 0 := by
          have := List.pairwise_cons.1 hsk
          exact this.1 y (by simp)
        refine ⟨?_, fun hc => ?_⟩
        · show ((∃ z, none = some z ∧ _) ∨ ((∃ z, some x = some z ∧ stO z.Stamp y.Stamp = 0 ∧ z ≠ y) ∨ False)) ↔ _
          constructor
          · rintro (⟨z, h, _⟩ | (⟨z, h, h1, h2⟩ | h))
            · cases h
            · obtain rfl := Option.some.inj h
              exact ⟨h1, (hne h1).1 h2⟩
            · exact h.elim
          · rintro ⟨h1, h2⟩
            exact .inr (.inl ⟨x, rfl, h1, (hne h1).2 h2⟩)
        · show some y = some (newer x y)
          unfold newer
          by_cases h0 : stO x.Stamp y.Stamp = 0
          · rw [if_pos (by omega)]
            by_cases hxy : x = y
            · rw [hxy]
            · exact absurd (show cfl none [x, y] from .inr (.inl ⟨x, rfl, h0, hxy⟩)) hc
          · rw [if_neg (by omega)]
      · subst e
        have hle : ¬ stO x.Stamp y.Stamp < 0 := by
          have := List.pairwise_cons.1 hsk
          exact this.1 x (by simp)
        refine ⟨?_, fun hc => ?_⟩
        · show ((∃ z, none = some z ∧ _) ∨ ((∃ z, some y = some z ∧ stO z.Stamp x.Stamp = 0 ∧ z ≠ x) ∨ False)) ↔ _
          constructor
          · rintro (⟨z, h, _⟩ | (⟨z, h, h1, h2⟩ | h))
            · cases h
            · obtain rfl := Option.some.inj h
              have h0 : stO x.Stamp y.Stamp = 0 := by omega
              exact ⟨h0, (hne h0).1 (Ne.symm h2)⟩
            · exact h.elim
          · rintro ⟨h1, h2⟩
            exact .inr (.inl ⟨y, rfl, by omega, Ne.symm ((hne h1).2 h2)⟩)
        · show some x = some (newer x y)
          unfold newer
          rw [if_pos (by omega)]
end Go.Beacon
