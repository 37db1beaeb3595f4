/- The law TracksPlain as a plain statement. No program in sight. -/
import Derived.Test.YtfplpihogacmaaaTraPtrk
set_option linter.unusedVariables false
set_option linter.unusedSimpArgs false
namespace Go.Beacon
open Go Go.Eng

/-! a track that is right: its moments rise -/
theorem scan_mono {D : Str} : ∀ {xs : List Fix} {p : Option Fix}, scanC fixStep p xs = 0 → (∀ x ∈ xs, x.Device = D) → (∀ q, p = some q → q.Device = D) → xs.Pairwise (fun a b => a.At < b.At) ∧ ∀ q, p = some q → ∀ x ∈ xs, q.At < x.At
  | [], p, _, _, _ => ⟨List.Pairwise.nil, fun q _ x hx => by simp at hx⟩
  | s :: r, p, h, hD, hp => by
    simp only [scanC] at h
    by_cases h0 : fixStep p s = 0
    · rw [if_pos h0] at h
      obtain ⟨h1, h2⟩ := scan_mono (p := some s) h (fun x hx => hD x (by simp [hx])) (fun q hq => by cases hq; exact hD s (by simp))
      refine ⟨List.Pairwise.cons (h2 s rfl) h1, fun q hq x hx => ?_⟩
      have hqs : q.At < s.At := by
        subst hq
        unfold fixStep at h0
        split at h0
        · omega
        · split at h0
          · omega
          · simp only at h0
            split at h0
            · omega
            · rename_i hc
              unfold fixC at hc
              rw [hD s (by simp), hp q rfl, cmpB_self] at hc
              simp only [ne_eq, not_true_eq_false, if_false] at hc
              unfold cmpI at hc
              repeat' split at hc
              all_goals omega
      rcases List.mem_cons.1 hx with rfl | hx
      · exact hqs
      · exact Int.lt_trans hqs (h2 s rfl x hx)
    · rw [if_neg h0] at h; exact absurd h h0
theorem track_mono (xs : List Fix) (hl : (xs.length : Int) ≤ 100000) (h : place_trackFault xs = some 0) (hc : chkX xs = 0) : xs.Pairwise (fun a b => a.At < b.At) := by
  cases xs with
  | nil => exact List.Pairwise.nil
  | cons x r =>
    unfold place_trackFault at h
    rw [CheckFixes_eq] at h
    simp only [Option.bind_some, hc, ne_eq, not_true_eq_false, if_false] at h
    have hb : slices_ContainsFunc_Fix_Fix (x :: r) (fun y0 => place_trackFault_1x y0 (x :: r)) = some ((x :: r).any (fun y => decide (y.Device ≠ x.Device))) :=
      gContainsFunc_eq (x :: r) _ (fun y => decide (y.Device ≠ x.Device)) (fun y _ => by unfold place_trackFault_1x; rfl) (by omega)
    rw [hb] at h
    simp only [Option.bind_some] at h
    have hall : ∀ y ∈ x :: r, y.Device = x.Device := by
      intro y hy
      by_cases hd : y.Device = x.Device
      · exact hd
      · rw [if_pos (List.any_eq_true.2 ⟨y, hy, by simpa using hd⟩)] at h
        simp at h
    unfold chkX at hc
    split at hc
    · omega
    · exact (scan_mono hc hall (fun q hq => by cases hq)).1
theorem mono_idx {xs : List Fix} (h : xs.Pairwise (fun a b => a.At < b.At)) {i j : Int} {x y : Fix} (hx : idx xs i = some x) (hy : idx xs j = some y) (hij : i < j) : x.At < y.At := by
  obtain ⟨a0, a1, a2⟩ := idx_some hx
  obtain ⟨b0, b1, b2⟩ := idx_some hy
  rw [List.pairwise_iff_getElem] at h
  have := h i.toNat j.toNat (by omega) (by omega) (by omega)
  rw [List.getElem?_eq_getElem (by omega)] at a2 b2
  rw [Option.some.inj a2, Option.some.inj b2] at this
  exact this
/-! Jumps -/
theorem over_eq {a b c d : Int} (ha : 0 ≤ a ∧ a ≤ 9223372036854775807) (hb : 0 ≤ b ∧ b ≤ 9223372036854775807) (hc : 0 ≤ c ∧ c ≤ 9223372036854775807) (hd : 0 ≤ d ∧ d ≤ 9223372036854775807) : place_wide_over (place_product a b) (place_product c d) = decide (c * d < a * b) := by
  unfold place_wide_over place_product place_wide_over_j1
  rw [u64_in ha.1 ha.2, u64_in hb.1 hb.2, u64_in hc.1 hc.2, u64_in hd.1 hd.2, Mul64_eq (by omega) (by omega), Mul64_eq (by omega) (by omega)]
  simp only
  generalize c * d = p
  generalize a * b = q
  rw [Bool.eq_iff_iff]
  simp only [Bool.or_eq_true, Bool.and_eq_true, decide_eq_true_eq]
  omega
theorem jump_same {sp dt sq row : Int} (hs : 1 ≤ sp ∧ sp ≤ 10000) (hd : 0 ≤ dt ∧ dt ≤ 345686399999) (hq : 0 ≤ sq ∧ sq ≤ 800000000) (hr : 0 ≤ row ∧ row ≤ 2) :
    (place_wide_over (place_product sq 1000000) (place_product (w64 (sp * dt)) (w64 (sp * dt))) && decide (row < 2)) =
    !(if (100000000 : Int) ≤ w64 (sp * min dt 100000000) then true else (decide (w64 (sq * 1000000) ≤ w64 (w64 (sp * min dt 100000000) * w64 (sp * min dt 100000000))) || decide (row = 2))) := by
  have m1 := mul_bd (a := sp) (b := dt) (A := 10000) (B := 345686399999) (by omega) (by omega) (by omega) (by omega)
  have n1 : 0 ≤ sp * dt := Int.mul_nonneg (by omega) (by omega)
  have hmin : min dt 100000000 = dt ∨ (min dt 100000000 = 100000000 ∧ 100000000 ≤ dt) := by omega
  rw [w64_in (x := sp * dt) (by omega) (by omega), over_eq (by omega) (by omega) (by omega) (by omega)]
  have big : ∀ x : Int, 100000000 ≤ x → 10000000000000000 ≤ x * x := fun x hx => by
    have := Int.mul_le_mul hx hx (by omega) (by omega)
    omega
  rcases hmin with h | ⟨h, h'⟩
  · rw [h, w64_in (x := sp * dt) (by omega) (by omega)]
    by_cases hw : 100000000 ≤ sp * dt
    · have := big _ hw
      rw [if_pos hw, decide_eq_false (by omega)]; rfl
    · have m2 := mul_bd (a := sp * dt) (b := sp * dt) (A := 100000000) (B := 100000000) (by omega) (by omega) (by omega) (by omega)
      rw [if_neg hw, w64_in (x := sp * dt * (sp * dt)) (by omega) (by omega), w64_in (x := sq * 1000000) (by omega) (by omega), Bool.eq_iff_iff]
      simp only [Bool.and_eq_true, decide_eq_true_eq, Bool.not_eq_true', Bool.or_eq_false_iff, decide_eq_false_iff_not]
      omega
  · have m3 : 100000000 ≤ sp * 100000000 := by omega
    have m4 : sp * 100000000 ≤ sp * dt := Int.mul_le_mul_of_nonneg_left h' (by omega)
    have := big (sp * dt) (by omega)
    rw [h, w64_in (x := sp * 100000000) (by omega) (by omega), if_pos m3, decide_eq_false (by omega)]; rfl
theorem Jumps_loop {xs : List Fix} (hx : ∀ x ∈ xs, FixR x) (hl : xs.length ≤ 2000) (hm : xs.Pairwise (fun a b => a.At < b.At)) {sp : Int} (hs : 1 ≤ sp ∧ sp ≤ 10000) : ∀ (m i g : Nat) (row : Int) (l : List Int), i + m = xs.length → g < i → 0 ≤ row ∧ row ≤ 2 → l.length ≤ i →
    ∃ r, place_Jumps_l1 xs sp l g row i = some (r, 0) ∧ Q_JumpsOf_l1 xs sp l g row i = some r ∧ r.length ≤ 100000 := by
  intro m
  induction m with
  | zero =>
    intro i g row l hi hg hr hll
    unfold place_Jumps_l1 Q_JumpsOf_l1
    refine ⟨l, ?_, ?_, by omega⟩
    · rw [iter_eq, place_Jumps_b1, if_neg (by simp only; omega), map_inr_after]
    · rw [iter_eq, Q_JumpsOf_b1, if_neg (by simp only; omega), map_inr_after]
  | succ m ih =>
    intro i g row l hi hg hr hll
    obtain ⟨x, hxi, hxm, _⟩ := idx_lt xs (i := (i : Int)) (by omega) (by omega)
    obtain ⟨y, hyg, hym, _⟩ := idx_lt xs (i := (g : Int)) (by omega) (by omega)
    have hlt := mono_idx hm hyg hxi (by omega)
    obtain ⟨rx, _, ax⟩ := hx x hxm
    obtain ⟨ry, _, ay⟩ := hx y hym
    have q1 : place_square (place_spot x) (place_spot y) = sqG ⟨x.X, x.Y⟩ ⟨y.X, y.Y⟩ := square_eq rx ry
    have q2 : Q_square x y = sqG ⟨x.X, x.Y⟩ ⟨y.X, y.Y⟩ := Qsq_eq rx ry
    have qb := sqG_bd rx ry
    have wd : w64 (x.At - y.At) = x.At - y.At := by rw [w64_in] <;> omega
    have js := jump_same (sp := sp) (dt := x.At - y.At) (sq := sqG ⟨x.X, x.Y⟩ ⟨y.X, y.Y⟩) (row := row) hs (by omega) qb hr
    have w1 : w64 ((i : Int) + 1) = ((i + 1 : Nat) : Int) := by rw [w64_in] <;> omega
    have hq : ∀ c : Bool, (if (100000000 : Int) ≤ w64 (sp * min (x.At - y.At) 100000000) then true else (decide (w64 (sqG ⟨x.X, x.Y⟩ ⟨y.X, y.Y⟩ * 1000000) ≤ w64 (w64 (sp * min (x.At - y.At) 100000000) * w64 (sp * min (x.At - y.At) 100000000))) || decide (row = 2))) = c → Q_JumpsOf_l1 xs sp l g row i = (Q_JumpsOf_j2 l g row i c).bind (after (fun x : (List Int) × Int × Int × Int => Q_JumpsOf_l1 xs sp x.1 x.2.1 x.2.2.1 x.2.2.2)) := by
      intro c hc
      unfold Q_JumpsOf_l1
      rw [iter_eq, Q_JumpsOf_b1, if_pos (by simp only; omega)]
      simp only [hxi, hyg, Option.bind_some, wd, q2]
      split at hc
      · rename_i h; rw [if_pos h, ← hc]
      · rename_i h; rw [if_neg h, hc]
    have hp : ∀ c : Bool, (place_wide_over (place_product (sqG ⟨x.X, x.Y⟩ ⟨y.X, y.Y⟩) 1000000) (place_product (w64 (sp * (x.At - y.At))) (w64 (sp * (x.At - y.At)))) && decide (row < 2)) = c → place_Jumps_l1 xs sp l g row i = (place_Jumps_j2 l g row i c).bind (after (fun x : (List Int) × Int × Int × Int => place_Jumps_l1 xs sp x.1 x.2.1 x.2.2.1 x.2.2.2)) := by
      intro c hc
      unfold place_Jumps_l1
      rw [iter_eq, place_Jumps_b1, if_pos (by simp only; omega)]
      simp only [hxi, hyg, Option.bind_some, wd, q1, hc]
    generalize hC : (if (100000000 : Int) ≤ w64 (sp * min (x.At - y.At) 100000000) then true else (decide (w64 (sqG ⟨x.X, x.Y⟩ ⟨y.X, y.Y⟩ * 1000000) ≤ w64 (w64 (sp * min (x.At - y.At) 100000000) * w64 (sp * min (x.At - y.At) 100000000))) || decide (row = 2))) = c at js hq
    rw [hq c rfl, hp (!c) js]
    cases c with
    | true =>
      unfold Q_JumpsOf_j2 place_Jumps_j2 Q_JumpsOf_j1 place_Jumps_j1
      rw [w1]
      simpa using ih (i + 1) i 0 l (by omega) (by omega) (by omega) (by omega)
    | false =>
      have hrow : row < 2 := by
        by_cases h2 : row < 2
        · exact h2
        · have hr2 : row = 2 := by omega
          split at hC
          · cases hC
          · simp [hr2] at hC
      have w2 : w64 (row + 1) = row + 1 := by rw [w64_in] <;> omega
      unfold Q_JumpsOf_j2 place_Jumps_j2 Q_JumpsOf_j1 place_Jumps_j1
      rw [w1, w2, app_le (by simp; omega)]
      simpa using ih (i + 1) g (row + 1) (l ++ [(i : Int)]) (by omega) (by omega) (by omega) (by simp; omega)
/-! Plain: which fixes are kept -/
def bst (g : Nat → Fraction) : Nat → Nat → Int × Fraction → Int × Fraction
  | 0, _, s => s
  | n + 1, m, s => bst g n (m + 1) (if ltF s.2 (g m) = true then ((m : Int), g m) else s)
theorem bst_in (g : Nat → Fraction) : ∀ (n m : Nat) (s : Int × Fraction), (bst g n m s).1 = s.1 ∨ ((m : Int) ≤ (bst g n m s).1 ∧ (bst g n m s).1 < m + n)
  | 0, m, s => .inl rfl
  | n + 1, m, s => by
    unfold bst
    rcases bst_in g n (m + 1) (if ltF s.2 (g m) = true then ((m : Int), g m) else s) with h | h
    · rw [h]
      split
      · right; simp only; omega
      · left; rfl
    · right; omega
def rdp (B : Nat → Nat → Int) : Nat → Nat → Nat → List Nat
  | 0, _, _ => []
  | f + 1, i, k => if B i k < 0 then [] else rdp B f i (B i k).toNat ++ (B i k).toNat :: rdp B f (B i k).toNat k
theorem rdp_succ (B : Nat → Nat → Int) (f i k : Nat) : rdp B (f + 1) i k = if B i k < 0 then [] else rdp B f i (B i k).toNat ++ (B i k).toNat :: rdp B f (B i k).toNat k := rfl
def Bnd2 (B : Nat → Nat → Int) : Prop := ∀ i k, B i k < 0 ∨ ((i : Int) < B i k ∧ B i k < k)
theorem rdp_fuel {B : Nat → Nat → Int} (hB : Bnd2 B) : ∀ (f f' i k : Nat), k - i ≤ f → k - i ≤ f' → rdp B f i k = rdp B f' i k
  | 0, 0, i, k, _, _ => rfl
  | 0, f' + 1, i, k, h, _ => by
    unfold rdp
    rcases hB i k with hb | hb
    · rw [if_pos hb]
    · omega
  | f + 1, 0, i, k, _, h => by
    unfold rdp
    rcases hB i k with hb | hb
    · rw [if_pos hb]
    · omega
  | f + 1, f' + 1, i, k, h, h' => by
    unfold rdp
    rcases hB i k with hb | hb
    · rw [if_pos hb, if_pos hb]
    · rw [if_neg (by omega), if_neg (by omega), rdp_fuel hB f f' i _ (by omega) (by omega), rdp_fuel hB f f' _ k (by omega) (by omega)]
def Rd (B : Nat → Nat → Int) (i k : Nat) : List Nat := rdp B (k - i) i k
theorem Rd_neg {B : Nat → Nat → Int} (hB : Bnd2 B) {i k : Nat} (h : B i k < 0) : Rd B i k = [] := by
  unfold Rd
  cases hk : k - i with
  | zero => rfl
  | succ f => unfold rdp; rw [if_pos h]
theorem Rd_pos {B : Nat → Nat → Int} (hB : Bnd2 B) {i k m : Nat} (h : B i k = (m : Int)) : Rd B i k = Rd B i m ++ m :: Rd B m k := by
  unfold Rd
  have hb : (i : Int) < m ∧ (m : Int) < k := by
    rcases hB i k with hb | hb
    · omega
    · omega
  obtain ⟨f, hf⟩ : ∃ f, k - i = f + 1 := ⟨k - i - 1, by omega⟩
  rw [hf, rdp_succ, if_neg (by omega), h, show ((m : Int)).toNat = m by omega]
  rw [rdp_fuel hB f (m - i) i m (by omega) (by omega), rdp_fuel hB f (k - m) m k (by omega) (by omega)]
theorem Rd_srt {B : Nat → Nat → Int} (hB : Bnd2 B) : ∀ (f i k : Nat), k - i ≤ f → (Rd B i k).Pairwise (· < ·) ∧ ∀ x ∈ Rd B i k, i < x ∧ x < k := by
  intro f
  induction f with
  | zero =>
    intro i k h
    rcases hB i k with hb | hb
    · rw [Rd_neg hB hb]; exact ⟨List.Pairwise.nil, fun x hx => by simp at hx⟩
    · omega
  | succ f ih =>
    intro i k h
    rcases hB i k with hb | hb
    · rw [Rd_neg hB hb]; exact ⟨List.Pairwise.nil, fun x hx => by simp at hx⟩
    · have hm : B i k = ((B i k).toNat : Int) := by omega
      generalize (B i k).toNat = m at hm
      rw [Rd_pos hB hm]
      obtain ⟨a1, a2⟩ := ih i m (by omega)
      obtain ⟨b1, b2⟩ := ih m k (by omega)
      refine ⟨List.pairwise_append.2 ⟨a1, List.pairwise_cons.2 ⟨fun x hx => (b2 x hx).1, b1⟩, fun x hx y hy => ?_⟩, fun x hx => ?_⟩
      · have := (a2 x hx).2
        rcases List.mem_cons.1 hy with rfl | hy
        · exact this
        · have := (b2 y hy).1; omega
      · rcases List.mem_append.1 hx with hx | hx
        · have := a2 x hx; omega
        · rcases List.mem_cons.1 hx with rfl | hx
          · omega
          · have := b2 x hx; omega
theorem eq_of_srt : ∀ {X Y : List Nat}, X.Pairwise (· < ·) → Y.Pairwise (· < ·) → (∀ x, x ∈ X ↔ x ∈ Y) → X = Y
  | [], [], _, _, _ => rfl
  | [], y :: Y, _, _, h => by have := (h y).2 (by simp); simp at this
  | x :: X, [], _, _, h => by have := (h x).1 (by simp); simp at this
  | x :: X, y :: Y, h1, h2, h => by
    rw [List.pairwise_cons] at h1 h2
    have e : x = y := by
      have a := (h x).1 (by simp)
      have b := (h y).2 (by simp)
      rcases List.mem_cons.1 a with a | a
      · exact a
      · rcases List.mem_cons.1 b with b | b
        · exact b.symm
        · have := h2.1 x a; have := h1.1 y b; omega
    subst e
    rw [eq_of_srt h1.2 h2.2 (fun z => ?_)]
    constructor
    · intro hz
      rcases List.mem_cons.1 ((h z).1 (List.mem_cons_of_mem _ hz)) with rfl | hz'
      · have := h1.1 z hz; omega
      · exact hz'
    · intro hz
      rcases List.mem_cons.1 ((h z).2 (List.mem_cons_of_mem _ hz)) with rfl | hz'
      · have := h2.1 z hz; omega
      · exact hz'
/-- What stands between the kept ones in the end. -/
def expn (B : Nat → Nat → Int) : Nat → List Nat → List Nat
  | _, [] => []
  | a, b :: r => Rd B a b ++ b :: expn B b r
/-- The first pair of neighbours with one to be added between. -/
def addB (B : Nat → Nat → Int) : Nat → List Nat → Int
  | _, [] => -1
  | a, b :: r => if B a b < 0 then addB B b r else B a b
theorem expn_done {B : Nat → Nat → Int} (hB : Bnd2 B) : ∀ (a : Nat) (l : List Nat), addB B a l < 0 → expn B a l = l
  | a, [], _ => rfl
  | a, b :: r, h => by
    unfold addB at h
    unfold expn
    by_cases hb : B a b < 0
    · rw [if_pos hb] at h
      rw [Rd_neg hB hb, expn_done hB b r h]; rfl
    · rw [if_neg hb] at h; exact absurd h hb
def insB (B : Nat → Nat → Int) : Nat → List Nat → List Nat
  | _, [] => []
  | a, b :: r => if B a b < 0 then b :: insB B b r else (B a b).toNat :: b :: r
theorem insB_spec {B : Nat → Nat → Int} (hB : Bnd2 B) : ∀ (a : Nat) (l : List Nat), (a :: l).Pairwise (· < ·) → ¬ addB B a l < 0 → expn B a (insB B a l) = expn B a l ∧ (a :: insB B a l).Pairwise (· < ·) ∧ (∀ x, x ∈ insB B a l ↔ x ∈ l ∨ (x : Int) = addB B a l) ∧ (insB B a l).length = l.length + 1 ∧ (a : Int) < addB B a l ∧ (∀ x ∈ l, (x : Int) ≠ addB B a l)
  | a, [], _, h => by unfold addB at h; omega
  | a, b :: r, hp, h => by
    unfold addB at h ⊢
    unfold insB
    rw [List.pairwise_cons] at hp
    by_cases hb : B a b < 0
    · rw [if_pos hb] at h ⊢
      rw [if_pos hb]
      obtain ⟨h1, h2, h3, h4, h5, h6⟩ := insB_spec hB b r hp.2 h
      have hab := hp.1 b (by simp)
      refine ⟨?_, ?_, ?_, by simp [h4], by omega, ?_⟩
      · unfold expn; rw [h1]
      · refine List.pairwise_cons.2 ⟨fun x hx => ?_, h2⟩
        rcases List.mem_cons.1 hx with rfl | hx
        · exact hab
        · have := (List.pairwise_cons.1 h2).1 x hx; omega
      · intro x
        simp only [List.mem_cons, h3]
        constructor
        · rintro (h | h | h)
          · exact .inl (.inl h)
          · exact .inl (.inr h)
          · exact .inr h
        · rintro ((h | h) | h)
          · exact .inl h
          · exact .inr (.inl h)
          · exact .inr (.inr h)
      · intro x hx
        rcases List.mem_cons.1 hx with rfl | hx
        · omega
        · exact h6 x hx
    · rw [if_neg hb] at h ⊢
      rw [if_neg hb]
      have hm : B a b = ((B a b).toNat : Int) := by omega
      have hbd := hB a b
      have hmm : B a b = ((B a b).toNat : Int) := hm
      generalize (B a b).toNat = m at hm hmm
      have hr := (List.pairwise_cons.1 hp.2).1
      refine ⟨?_, ?_, ?_, by simp, by omega, ?_⟩
      · show Rd B a m ++ m :: (Rd B m b ++ b :: expn B b r) = Rd B a b ++ b :: expn B b r
        rw [Rd_pos hB hm]
        simp
      · refine List.pairwise_cons.2 ⟨fun x hx => ?_, List.pairwise_cons.2 ⟨fun x hx => ?_, hp.2⟩⟩
        · rcases List.mem_cons.1 hx with rfl | hx
          · omega
          · exact hp.1 x hx
        · rcases List.mem_cons.1 hx with rfl | hx
          · omega
          · have := hr x hx; omega
      · intro x
        simp only [List.mem_cons]
        constructor
        · rintro (h | h | h)
          · right; omega
          · exact .inl (.inl h)
          · exact .inl (.inr h)
        · rintro ((h | h) | h)
          · exact .inr (.inl h)
          · exact .inr (.inr h)
          · left; omega
      · intro x hx
        rcases List.mem_cons.1 hx with rfl | hx
        · omega
        · have := hr x hx; omega
/-! the distances of a track -/
def spG (xs : List Fix) (i : Nat) : Spot := match xs[i]? with
  | some x => ⟨x.X, x.Y⟩
  | none => ⟨0, 0⟩
noncomputable def farG (xs : List Fix) (i k m : Nat) : Fraction := (place_far (spG xs i) (spG xs k) (spG xs m)).getD ⟨0, 1⟩
theorem spG_B {xs : List Fix} (hx : ∀ x ∈ xs, FixR x) (i : Nat) : SB (spG xs i) := by
  unfold spG
  split
  · rename_i x h; exact (hx x (List.mem_of_getElem? h)).1
  · unfold SB; simp
theorem farG_ok {xs : List Fix} (hx : ∀ x ∈ xs, FixR x) (i k m : Nat) : place_far (spG xs i) (spG xs k) (spG xs m) = some (farG xs i k m) ∧ Q_farWay (spG xs i) (spG xs k) (spG xs m) = some (farG xs i k m) ∧ FrB (farG xs i k m) := by
  obtain ⟨f, f1, f2, f3⟩ := far_eq (spG_B hx i) (spG_B hx k) (spG_B hx m)
  unfold farG
  rw [f1]
  exact ⟨rfl, f2, f3⟩
theorem spG_at {xs : List Fix} {i : Nat} {x : Fix} (h : idx xs i = some x) : spG xs i = ⟨x.X, x.Y⟩ := by
  obtain ⟨_, _, h2⟩ := idx_some h
  unfold spG
  rw [show ((i : Int)).toNat = i by omega] at h2
  rw [h2]
noncomputable def bestG (xs : List Fix) (most : Int) (i k : Nat) : Int := (bst (farG xs i k) (k - (i + 1)) (i + 1) (-1, ⟨most * most, 1⟩)).1
theorem bestG_bd (xs : List Fix) (most : Int) : Bnd2 (bestG xs most) := by
  intro i k
  unfold bestG
  rcases bst_in (farG xs i k) (k - (i + 1)) (i + 1) (-1, ⟨most * most, 1⟩) with h | h
  · left; rw [h]; simp
  · right; omega
/-! the program's recursion -/
theorem set_map {n : Nat} (p : Nat → Bool) (i : Nat) : ((List.range n).map p).set i true = (List.range n).map (fun j => p j || decide (j = i)) := by
  apply List.ext_getElem?
  intro j
  rw [List.getElem?_set]
  by_cases h : i = j
  · subst h
    by_cases hi : i < n
    · simp [hi]
    · simp [hi]
  · rw [if_neg h]
    rw [List.getElem?_map, List.getElem?_map]
    cases hj : (List.range n)[j]? with
    | none => rfl
    | some v =>
      have hv : v = j := by
        rw [List.getElem?_range] at hj
        · exact (Option.some.inj hj).symm
        · have := (List.getElem?_eq_some_iff.1 hj).1; simpa using this
      subst hv
      simp [Ne.symm h]
theorem idx_map {n : Nat} (p : Nat → Bool) {i : Nat} (h : i < n) : idx ((List.range n).map p) (i : Int) = some (p i) := by
  unfold idx
  rw [if_pos (by omega)]
  simp [h]
theorem Between_loop {xs : List Fix} (hx : ∀ x ∈ xs, FixR x) (hl : xs.length ≤ 2000) {most : Int} {self : Int → Int → List Bool → Int → List Fix → Option (List Bool)} {keep : List Bool} {i k : Nat} (hk : k < xs.length) (hi : i < xs.length) : ∀ (n m : Nat) (s : Int × Fraction), m + n = k → FrB s.2 →
    place_Plain_1x_l1 self i k keep most xs s.1 s.2.Num s.2.Den m = place_Plain_1x_k3 self i k keep most xs (bst (farG xs i k) n m s).1 := by
  intro n
  induction n with
  | zero =>
    intro m s hm hs
    unfold place_Plain_1x_l1
    rw [iter_eq, place_Plain_1x_b1, if_neg (by simp only; omega), map_inr_after]
    rfl
  | succ n ih =>
    intro m s hm hs
    obtain ⟨x, x1, _, _⟩ := idx_lt xs (i := (i : Int)) (by omega) (by omega)
    obtain ⟨y, y1, _, _⟩ := idx_lt xs (i := (k : Int)) (by omega) (by omega)
    obtain ⟨z, z1, _, _⟩ := idx_lt xs (i := (m : Int)) (by omega) (by omega)
    obtain ⟨f1, f2, f3⟩ := farG_ok hx i k m
    rw [spG_at x1, spG_at y1, spG_at z1] at f1
    have w1 : w64 ((m : Int) + 1) = ((m + 1 : Nat) : Int) := by rw [w64_in] <;> omega
    unfold place_Plain_1x_l1 at ih ⊢
    rw [iter_eq, place_Plain_1x_b1, if_pos (by simp only; omega)]
    simp only [x1, y1, z1, Option.bind_some]
    rw [show place_far (place_spot x) (place_spot y) (place_spot z) = some (farG xs i k m) from f1]
    simp only [Option.bind_some]
    rw [show place_less (⟨s.2.Num, s.2.Den⟩ : Fraction) (farG xs i k m) = ltF s.2 (farG xs i k m) from less_eq hs f3]
    unfold bst
    cases hc : ltF s.2 (farG xs i k m) with
    | true =>
      simp only [if_true]
      unfold place_Plain_1x_j1
      simp only [Option.bind_some, after_inl, w1]
      exact ih (m + 1) ((m : Int), farG xs i k m) (by omega) f3
    | false =>
      simp only [Bool.false_eq_true, if_false]
      unfold place_Plain_1x_j1
      simp only [Option.bind_some, after_inl, w1]
      exact ih (m + 1) s (by omega) hs
theorem most_B {most : Int} (hm : 0 ≤ most ∧ most ≤ 10000) : w64 (most * most) = most * most ∧ FrB (⟨most * most, 1⟩ : Fraction) := by
  have h1 := mul_bd (a := most) (b := most) (A := 10000) (B := 10000) (by omega) (by omega) (by omega) (by omega)
  have h2 := sq_nn most
  refine ⟨by rw [w64_in] <;> omega, ⟨by simp only; omega, by simp only; omega⟩, by simp only; omega, by simp only; omega⟩
theorem Between_eq {xs : List Fix} (hx : ∀ x ∈ xs, FixR x) (hl : xs.length ≤ 2000) {most : Int} (hm : 0 ≤ most ∧ most ≤ 10000) : ∀ (f i k : Nat) (p : Nat → Bool), k < xs.length → i ≤ k → k - i < f →
    place_Plain_1x_r f i k ((List.range xs.length).map p) most xs = some ((List.range xs.length).map (fun j => p j || (decide (j = i) || decide (j = k) || decide (j ∈ Rd (bestG xs most) i k)))) := by
  intro f
  induction f with
  | zero => intro i k p hk hi hf; omega
  | succ f ih =>
    intro i k p hk hi hf
    obtain ⟨m1, m2⟩ := most_B hm
    show place_Plain_1x_bd (place_Plain_1x_r f) i k _ most xs = _
    unfold place_Plain_1x_bd
    rw [idx_map p (by omega), show ((i : Int)).toNat = i by omega, set_map, idx_map _ hk]
    simp only [Option.bind_some]
    have w1 : w64 ((i : Int) + 1) = ((i + 1 : Nat) : Int) := by rw [w64_in] <;> omega
    rw [m1, w1]
    have hB := bestG_bd xs most
    have hloop : place_Plain_1x_l1 (place_Plain_1x_r f) i k ((List.range xs.length).map p) most xs (-1) (most * most) 1 ((i + 1 : Nat) : Int) = place_Plain_1x_k3 (place_Plain_1x_r f) i k ((List.range xs.length).map p) most xs (bestG xs most i k) := by
      by_cases hik : i = k
      · subst hik
        unfold place_Plain_1x_l1
        rw [iter_eq, place_Plain_1x_b1, if_neg (by simp only; omega), map_inr_after]
        unfold bestG
        rw [show i - (i + 1) = 0 by omega]; rfl
      · exact Between_loop hx hl hk (by omega) (k - (i + 1)) (i + 1) (-1, ⟨most * most, 1⟩) (by omega) m2
    rw [hloop]
    unfold place_Plain_1x_k3 place_Plain_1x_j2
    rw [show ((i : Int)).toNat = i by omega, show ((k : Int)).toNat = k by omega, set_map, set_map]
    rcases hB i k with hb | hb
    · rw [if_neg (by omega), Rd_neg hB hb]
      congr 1
      apply List.map_congr_left
      intro j _
      simp [Bool.or_assoc]
    · rw [if_pos (by omega)]
      have hmm : bestG xs most i k = ((bestG xs most i k).toNat : Int) := by omega
      generalize (bestG xs most i k).toNat = b at hmm
      rw [hmm] at hb ⊢
      rw [ih i b _ (by omega) (by omega) (by omega)]
      simp only [Option.bind_some]
      rw [ih b k _ hk (by omega) (by omega), Rd_pos hB hmm]
      simp only [Option.bind_some]
      congr 1
      apply List.map_congr_left
      intro j _
      rw [Bool.eq_iff_iff]
      simp only [Bool.or_eq_true, decide_eq_true_eq, List.mem_append, List.mem_cons]
      constructor
      · rintro ((((h | h) | h) | ((h | h) | h)) | ((h | h) | h))
        · exact .inl h
        · exact .inr (.inl (.inl h))
        · exact .inr (.inl (.inr h))
        · exact .inr (.inl (.inl h))
        · exact .inr (.inr (.inr (.inl h)))
        · exact .inr (.inr (.inl h))
        · exact .inr (.inr (.inr (.inl h)))
        · exact .inr (.inl (.inr h))
        · exact .inr (.inr (.inr (.inr h)))
      · rintro (h | ((h | h) | (h | h | h)))
        · exact .inl (.inl (.inl (.inl h)))
        · exact .inl (.inl (.inl (.inr h)))
        · exact .inl (.inl (.inr h))
        · exact .inl (.inr (.inr h))
        · exact .inl (.inr (.inl (.inr h)))
        · exact .inr (.inr h)
theorem keep_loop (p : Nat → Bool) {n : Nat} (hn : n ≤ 2000) : ∀ (m i : Nat) (l : List Int), i + m = n → l.length ≤ i → place_Plain_l1 ((List.range n).map p) l i = some (l ++ ((List.range' i m).filter p).map (fun j : Nat => (j : Int)), 0) := by
  intro m
  induction m with
  | zero =>
    intro i l hi hl
    unfold place_Plain_l1
    rw [iter_eq, place_Plain_b1, if_neg (by simp; omega), map_inr_after]
    simp
  | succ m ih =>
    intro i l hi hl
    have w1 : w64 ((i : Int) + 1) = ((i + 1 : Nat) : Int) := by rw [w64_in] <;> omega
    unfold place_Plain_l1 at ih ⊢
    rw [iter_eq, place_Plain_b1, if_pos (by simp; omega), idx_map p (by omega)]
    simp only [Option.bind_some]
    rw [List.range'_succ, List.filter_cons]
    unfold place_Plain_j2
    cases hp : p i with
    | true =>
      simp only [if_true]
      rw [app_le (by simp; omega)]
      simp only [Option.bind_some, after_inl, w1]
      rw [ih (i + 1) _ (by omega) (by simp; omega)]
      simp
    | false =>
      simp only [Bool.false_eq_true, if_false, Option.bind_some, after_inl, w1]
      exact ih (i + 1) l (by omega) (by omega)
/-! the reference -/
theorem QP_inner {xs : List Fix} (hx : ∀ x ∈ xs, FixR x) (hl : xs.length ≤ 2000) {n18 : Int} {i k : Nat} (hk : k < xs.length) (hi : i < xs.length) : ∀ (n m : Nat) (s : Int × Fraction), m + n = k → FrB s.2 →
    Q_PlainOf_l4 xs n18 i k s.1 s.2.Num s.2.Den m = some (.inl ((bst (farG xs i k) n m s).1, w64 (n18 + 1))) := by
  intro n
  induction n with
  | zero =>
    intro m s hm hs
    unfold Q_PlainOf_l4
    rw [iter_eq, Q_PlainOf_b4, if_neg (by simp only; omega), map_inr_after]
    rfl
  | succ n ih =>
    intro m s hm hs
    obtain ⟨x, x1, _, _⟩ := idx_lt xs (i := (i : Int)) (by omega) (by omega)
    obtain ⟨y, y1, _, _⟩ := idx_lt xs (i := (k : Int)) (by omega) (by omega)
    obtain ⟨z, z1, _, _⟩ := idx_lt xs (i := (m : Int)) (by omega) (by omega)
    obtain ⟨f1, f2, f3⟩ := farG_ok hx i k m
    rw [spG_at x1, spG_at y1, spG_at z1] at f2
    have w1 : w64 ((m : Int) + 1) = ((m + 1 : Nat) : Int) := by rw [w64_in] <;> omega
    unfold Q_PlainOf_l4 at ih ⊢
    rw [iter_eq, Q_PlainOf_b4, if_pos (by simp only; omega)]
    simp only [x1, y1, z1, Option.bind_some]
    rw [show Q_farWay (Q_spotOf x) (Q_spotOf y) (Q_spotOf z) = some (farG xs i k m) from f2]
    simp only [Option.bind_some]
    rw [show Q_less (⟨s.2.Num, s.2.Den⟩ : Fraction) (farG xs i k m) = some (ltF s.2 (farG xs i k m)) from Qless_eq hs f3]
    simp only [Option.bind_some]
    unfold bst Q_PlainOf_j2
    cases hc : ltF s.2 (farG xs i k m) with
    | true =>
      simp only [if_true, Option.bind_some, after_inl, w1]
      exact ih (m + 1) ((m : Int), farG xs i k m) (by omega) f3
    | false =>
      simp only [Bool.false_eq_true, if_false, Option.bind_some, after_inl, w1]
      exact ih (m + 1) s (by omega) hs
theorem idx_ofNat {l : List Nat} {i : Nat} {a : Nat} (h : l[i]? = some a) : idx (l.map (fun j : Nat => (j : Int))) (i : Int) = some (a : Int) := by
  unfold idx
  rw [if_pos (by omega)]
  simp [h]
theorem QP_pairs {xs : List Fix} (hx : ∀ x ∈ xs, FixR x) (hl : xs.length ≤ 2000) {most : Int} (hm : 0 ≤ most ∧ most ≤ 10000) {all : List Nat} (hall : ∀ a ∈ all, a < xs.length) (hal : all.length ≤ 2000) (hsr : all.Pairwise (· < ·)) : ∀ (r : List Nat) (a j : Nat), all.drop j = a :: r →
    Q_PlainOf_l3 xs most (all.map (fun j : Nat => (j : Int))) (-1) ((j + 1 : Nat) : Int) = Q_PlainOf_k3 (all.map (fun j : Nat => (j : Int))) (addB (bestG xs most) a r) := by
  obtain ⟨m1, m2⟩ := most_B hm
  intro r
  induction r with
  | nil =>
    intro a j hj
    have hlen : all.length = j + 1 := by
      have := congrArg List.length hj; simp at this; omega
    unfold Q_PlainOf_l3
    rw [iter_eq, Q_PlainOf_b3]
    unfold Q_PlainOf_j1
    rw [if_neg (by simp; omega), map_inr_after]; rfl
  | cons b r ih =>
    intro a j hj
    have hlen : j + 2 ≤ all.length := by
      have := congrArg List.length hj; simp at this; omega
    have ha : all[j]? = some a := by
      have := congrArg (fun l : List Nat => l[0]?) hj; simpa using this
    have hb : all[j + 1]? = some b := by
      have := congrArg (fun l : List Nat => l[1]?) hj; simpa using this
    have hj' : all.drop (j + 1) = b :: r := by
      rw [← List.drop_drop, hj]; rfl
    have hab : a < b := by
      rw [List.pairwise_iff_getElem] at hsr
      have := hsr j (j + 1) (by omega) (by omega) (by omega)
      rw [List.getElem?_eq_getElem (by omega)] at ha hb
      rw [Option.some.inj ha, Option.some.inj hb] at this
      exact this
    have w0 : w64 (((j + 1 : Nat) : Int) - 1) = (j : Int) := by rw [w64_in] <;> omega
    have w1 : w64 (((j + 1 : Nat) : Int) + 1) = ((j + 2 : Nat) : Int) := by rw [w64_in] <;> omega
    have w2 : w64 ((a : Int) + 1) = ((a + 1 : Nat) : Int) := by
      have := hall a (List.mem_of_getElem? ha); rw [w64_in] <;> omega
    unfold Q_PlainOf_l3 at ih ⊢
    rw [iter_eq, Q_PlainOf_b3]
    unfold Q_PlainOf_j1
    rw [if_pos (by simp; omega), w0, idx_ofNat ha, idx_ofNat hb]
    simp only [Option.bind_some]
    rw [m1, w2, show Q_PlainOf_l4 xs ((j + 1 : Nat) : Int) a b (-1) (most * most) 1 ((a + 1 : Nat) : Int) = _ from QP_inner hx hl (hall b (List.mem_of_getElem? hb)) (hall a (List.mem_of_getElem? ha)) (b - (a + 1)) (a + 1) (-1, ⟨most * most, 1⟩) (by omega) m2]
    simp only [Option.bind_some, after_inl, w1]
    show iter _ (bestG xs most a b, ((j + 2 : Nat) : Int)) = _
    unfold addB
    rcases bestG_bd xs most a b with hn | hn
    · rw [if_pos hn]
      have e : bestG xs most a b = -1 := by
        unfold bestG at hn ⊢
        rcases bst_in (farG xs a b) (b - (a + 1)) (a + 1) (-1, ⟨most * most, 1⟩) with h | h
        · exact h
        · omega
      rw [e]
      exact ih b (j + 1) hj'
    · rw [if_neg (by omega), iter_eq, Q_PlainOf_b3]
      unfold Q_PlainOf_j1
      rw [if_neg (by simp; omega), map_inr_after]
theorem srtI_ins {l l' : List Nat} {m : Int} (h : (l'.map (fun j : Nat => (j : Int))).Perm (l.map (fun j : Nat => (j : Int)) ++ [m])) (hs : l'.Pairwise (· < ·)) : srtI (l.map (fun j : Nat => (j : Int)) ++ [m]) = l'.map (fun j : Nat => (j : Int)) := by
  unfold srtI
  have hp := List.mergeSort_perm (l.map (fun j : Nat => (j : Int)) ++ [m]) (fun x y => decide (x ≤ y))
  have hsort := List.pairwise_mergeSort (le := fun x y : Int => decide (x ≤ y)) (fun a b c h1 h2 => by simp at *; omega) (fun a b => by simp; omega) (l.map (fun j : Nat => (j : Int)) ++ [m])
  have h2 : (l'.map (fun j : Nat => (j : Int))).Pairwise (fun a b => decide (a ≤ b) = true) := by
    rw [List.pairwise_map]
    exact hs.imp (fun {a b} h => by simp; omega)
  exact List.Perm.eq_of_pairwise (fun a b _ _ h1 h2 => by simp at h1 h2; omega) hsort h2 (hp.trans h.symm)
theorem srt_len {n : Nat} : ∀ (l : List Nat) (lo : Nat), (∀ x ∈ l, lo ≤ x ∧ x < n) → l.Pairwise (· < ·) → l.length ≤ n - lo
  | [], lo, _, _ => by simp
  | x :: r, lo, h1, h2 => by
    rw [List.pairwise_cons] at h2
    have hx := h1 x (by simp)
    have := srt_len r (x + 1) (fun y hy => ⟨h2.1 y hy, (h1 y (List.mem_cons_of_mem _ hy)).2⟩) h2.2
    simp only [List.length_cons]
    omega
theorem QP_loop {xs : List Fix} (hx : ∀ x ∈ xs, FixR x) (hl : xs.length ≤ 2000) {most : Int} (hm : 0 ≤ most ∧ most ≤ 10000) : ∀ (n : Nat) (a : Nat) (l : List Nat), (∀ x ∈ a :: l, x < xs.length) → (a :: l).Pairwise (· < ·) → xs.length ≤ n + (a :: l).length → 
    Q_PlainOf_l2 xs most ((a :: l).map (fun j : Nat => (j : Int))) = some ((a :: expn (bestG xs most) a l).map (fun j : Nat => (j : Int))) := by
  have hB := bestG_bd xs most
  have bound : ∀ l : List Nat, (∀ x ∈ l, x < xs.length) → l.Pairwise (· < ·) → l.length ≤ xs.length := by
    intro l h1 h2
    have := srt_len l 0 (fun x hx' => ⟨Nat.zero_le _, h1 x hx'⟩) h2
    omega
  intro n
  induction n with
  | zero =>
    intro a l h1 h2 h3
    have h4 := bound _ h1 h2
    have hd : addB (bestG xs most) a l < 0 := by
      by_cases h : addB (bestG xs most) a l < 0
      · exact h
      · obtain ⟨q1, q2, q3, q4, q5, q6⟩ := insB_spec hB a l h2 h
        have hin : ∀ x ∈ a :: insB (bestG xs most) a l, x < xs.length := by
          have key : ∀ (a : Nat) (l : List Nat), (∀ x ∈ a :: l, x < xs.length) → ¬ addB (bestG xs most) a l < 0 → addB (bestG xs most) a l < xs.length := by
            intro a l
            induction l generalizing a with
            | nil => intro _ h; unfold addB at h; omega
            | cons b r ih =>
              intro h1 h
              unfold addB at h ⊢
              split at h
              · rename_i hb; rw [if_pos hb]; exact ih b (fun x hx => h1 x (List.mem_cons_of_mem _ hx)) h
              · rename_i hb; rw [if_neg hb]
                have := h1 b (by simp)
                rcases hB a b with h | h
                · omega
                · omega
          intro x hx'
          rcases List.mem_cons.1 hx' with rfl | hx'
          · exact h1 x (by simp)
          · rcases (q3 x).1 hx' with h5 | h5
            · exact h1 x (List.mem_cons_of_mem _ h5)
            · have := key a l h1 h; omega
        have := bound _ hin q2
        simp only [List.length_cons] at this h3 h4
        omega
    unfold Q_PlainOf_l2
    have hpr := QP_pairs hx hl hm (all := a :: l) h1 (by omega) h2 l a 0 rfl
    rw [show ((0 + 1 : Nat) : Int) = 1 from rfl] at hpr
    rw [iter_eq, Q_PlainOf_b2, hpr]
    unfold Q_PlainOf_k3
    rw [if_pos hd, map_inr_after, expn_done hB a l hd]
  | succ n ih =>
    intro a l h1 h2 h3
    have h4 := bound _ h1 h2
    unfold Q_PlainOf_l2 at ih ⊢
    have hpr := QP_pairs hx hl hm (all := a :: l) h1 (by omega) h2 l a 0 rfl
    rw [show ((0 + 1 : Nat) : Int) = 1 from rfl] at hpr
    rw [iter_eq, Q_PlainOf_b2, hpr]
    unfold Q_PlainOf_k3
    by_cases h : addB (bestG xs most) a l < 0
    · rw [if_pos h, map_inr_after, expn_done hB a l h]
    · rw [if_neg h]
      obtain ⟨q1, q2, q3, q4, q5, q6⟩ := insB_spec hB a l h2 h
      have key : ∀ (a : Nat) (l : List Nat), (∀ x ∈ a :: l, x < xs.length) → ¬ addB (bestG xs most) a l < 0 → addB (bestG xs most) a l < xs.length := by
        intro a l
        induction l generalizing a with
        | nil => intro _ h; unfold addB at h; omega
        | cons b r ih =>
          intro h1 h
          unfold addB at h ⊢
          split at h
          · rename_i hb; rw [if_pos hb]; exact ih b (fun x hx => h1 x (List.mem_cons_of_mem _ hx)) h
          · rename_i hb; rw [if_neg hb]
            have := h1 b (by simp)
            rcases hB a b with h | h
            · omega
            · omega
      have hk := key a l h1 h
      rw [app_le (by simp at h4 ⊢; omega)]
      simp only [Option.bind_some]
      have hperm : ((a :: insB (bestG xs most) a l).map (fun j : Nat => (j : Int))).Perm ((a :: l).map (fun j : Nat => (j : Int)) ++ [addB (bestG xs most) a l]) := by
        have hm0 : addB (bestG xs most) a l = ((addB (bestG xs most) a l).toNat : Int) := by omega
        generalize (addB (bestG xs most) a l).toNat = m at hm0
        rw [hm0] at q3 q6 ⊢
        rw [show [(m : Int)] = [m].map (fun j : Nat => (j : Int)) from rfl, ← List.map_append]
        refine List.Perm.map _ ?_
        refine (List.perm_ext_iff_of_nodup (q2.imp (fun {a b} h => by omega)) ?_).2 ?_
        · rw [List.nodup_append]
          refine ⟨h2.imp (fun {a b} h => by omega), by simp, fun x hx' y hy => ?_⟩
          simp only [List.mem_singleton] at hy
          subst hy
          rcases List.mem_cons.1 hx' with rfl | hx'
          · omega
          · have := q6 x hx'; omega
        · intro x
          simp only [List.mem_cons, List.mem_append, List.mem_singleton, List.not_mem_nil, or_false, q3]
          constructor
          · rintro (h | h | h)
            · exact .inl (.inl h)
            · exact .inl (.inr h)
            · exact .inr (by omega)
          · rintro ((h | h) | h)
            · exact .inl h
            · exact .inr (.inl h)
            · exact .inr (.inr (by omega))
      have hs := srtI_ins hperm q2
      have hlen : lenOk ((a :: l).map (fun j : Nat => (j : Int)) ++ [addB (bestG xs most) a l]).length (fun r : List Int => r.length) (slices_Sort_int_int ((a :: l).map (fun j : Nat => (j : Int)) ++ [addB (bestG xs most) a l])) = some ((a :: insB (bestG xs most) a l).map (fun j : Nat => (j : Int))) := by
        unfold slices_Sort_int_int sort1
        rw [if_pos (by simp at h4 ⊢; omega), hs]
        refine len_ok rfl ?_
        have := hperm.length_eq
        exact this
      rw [hlen]
      simp only [Option.bind_some, after_inl]
      rw [ih a _ ?_ q2 ?_, q1]
      · intro x hx'
        rcases List.mem_cons.1 hx' with rfl | hx'
        · exact h1 x (by simp)
        · rcases (q3 x).1 hx' with h5 | h5
          · exact h1 x (List.mem_cons_of_mem _ h5)
          · omega
      · simp only [List.length_cons, q4] at h3 ⊢; omega
theorem one_loop (xs : List Fix) (h : xs.length < 2) : Q_PlainOf_l1 xs [] 0 = some ((List.range xs.length).map (fun j : Nat => (j : Int))) := by
  unfold Q_PlainOf_l1
  match xs, h with
  | [], _ =>
    rw [iter_eq, Q_PlainOf_b1, if_neg (by simp), map_inr_after]; rfl
  | [x], _ =>
    rw [iter_eq, Q_PlainOf_b1, if_pos (by simp), app_le (by simp), show w64 (0 + 1) = 1 by decide]
    simp only [Option.bind_some, after_inl]
    rw [iter_eq, Q_PlainOf_b1, if_neg (by simp), map_inr_after]; rfl
theorem Plain_both {xs : List Fix} (hx : ∀ x ∈ xs, FixR x) (hl : xs.length ≤ 2000) {most : Int} (hm : 0 ≤ most ∧ most ≤ 10000) : ∃ r : List Int, ((mkS false (xs.length : Int) (xs.length : Int)).bind fun l6 =>
      if (0 : Int) < (xs.length : Int) then
        (place_Plain_1x (0 : Int) (w64 ((xs.length : Int) - (1 : Int))) l6 most xs).bind fun v12 =>
        place_Plain_j1 v12
      else
        place_Plain_j1 l6) = some (r, 0) ∧ Q_PlainOf xs most = some r ∧ r.length ≤ 100000 := by
  have hB := bestG_bd xs most
  have hmk : mkS false (xs.length : Int) (xs.length : Int) = some ((List.range xs.length).map (fun _ => false)) := by
    unfold mkS
    rw [if_pos (by omega)]
    congr 1
    rw [show ((xs.length : Int)).toNat = xs.length by omega]
    exact (List.map_const' ..).symm ▸ by simp
  rw [hmk]
  simp only [Option.bind_some]
  unfold Q_PlainOf place_Plain_j1
  by_cases h0 : xs.length = 0
  · rw [if_neg (by omega), if_pos (by omega), one_loop xs (by omega)]
    have := keep_loop (fun _ => false) (n := xs.length) (by omega) xs.length 0 [] (by omega) (by simp)
    rw [show ((0 : Nat) : Int) = 0 from rfl] at this
    rw [this, h0]
    exact ⟨[], rfl, rfl, by simp⟩
  · rw [if_pos (by omega)]
    have w0 : w64 ((xs.length : Int) - 1) = ((xs.length - 1 : Nat) : Int) := by rw [w64_in] <;> omega
    unfold place_Plain_1x
    have hbe := Between_eq hx hl hm depth 0 (xs.length - 1) (fun _ => false) (by omega) (by omega) (by unfold depth; omega)
    rw [show ((0 : Nat) : Int) = 0 from rfl] at hbe
    rw [w0, hbe]
    simp only [Option.bind_some]
    have hke := keep_loop (fun j => false || (decide (j = 0) || decide (j = xs.length - 1) || decide (j ∈ Rd (bestG xs most) 0 (xs.length - 1)))) (n := xs.length) (by omega) xs.length 0 [] (by omega) (by simp)
    rw [show ((0 : Nat) : Int) = 0 from rfl] at hke
    rw [hke]
    by_cases h1 : xs.length = 1
    · rw [if_pos (by omega)]
      rw [one_loop xs (by omega), h1]
      exact ⟨[0], by simp [List.range'], rfl, by simp⟩
    · rw [if_neg (by omega)]
      have hq := QP_loop hx hl hm xs.length 0 [xs.length - 1] (by intro x hx'; simp at hx'; omega) (by simp; omega) (by simp)
      simp only [List.map_cons, List.map_nil] at hq
      refine ⟨_, rfl, ?_, by rw [List.nil_append, List.length_map]; refine Nat.le_trans (List.length_filter_le _ _) (by simp; omega)⟩
      rw [show ((0 : Nat) : Int) = 0 from rfl] at hq
      rw [hq]
      simp only [List.nil_append]
      congr 1
      rw [show (0 : Int) :: List.map (fun j : Nat => (j : Int)) (expn (bestG xs most) 0 [xs.length - 1]) = (0 :: expn (bestG xs most) 0 [xs.length - 1]).map (fun j : Nat => (j : Int)) from rfl]
      congr 1
      unfold expn expn
      obtain ⟨s1, s2⟩ := Rd_srt hB (xs.length - 1) 0 (xs.length - 1) (by omega)
      apply eq_of_srt
      · refine List.pairwise_cons.2 ⟨fun x hx' => ?_, List.pairwise_append.2 ⟨s1, by simp, fun x hx' y hy => ?_⟩⟩
        · rcases List.mem_append.1 hx' with h | h
          · exact (s2 x h).1
          · simp at h; omega
        · simp at hy; subst hy; exact (s2 x hx').2
      · exact (List.pairwise_lt_range' (s := 0) (n := xs.length)).filter _
      · intro x
        rw [List.mem_filter, List.mem_range'_1]
        simp only [List.mem_cons, List.mem_append, Bool.false_or, Bool.or_eq_true, decide_eq_true_eq, List.not_mem_nil, or_false]
        constructor
        · rintro (h | h | h)
          · exact ⟨by omega, .inl (.inl h)⟩
          · have := s2 x h; exact ⟨by omega, .inr h⟩
          · exact ⟨by omega, .inl (.inr h)⟩
        · rintro ⟨_, (h | h) | h⟩
          · exact .inl h
          · exact .inr (.inr h)
          · exact .inr (.inl h)
/-! the law -/
theorem TracksPlain_plain (l : List Int) : L_TracksPlain l = some true := by
  unfold L_TracksPlain
  refine Gen.use (Track_ok (k := 100) ⟨by simp, by simp⟩ (by omega) (by omega)) (fun xs s1 hx hs1 => ?_)
  refine Gen.use (Pick_ok (k := 90) (hs1.less (by omega)) (by simp) (by simp) (by omega)) (fun sp s2 hp hs2 => ?_)
  refine Gen.use (Pick_ok (k := 80) (hs2.less (by omega)) (by simp) (by simp) (by omega)) (fun far s3 hf hs3 => ?_)
  simp only
  obtain ⟨hxl, hxB⟩ := hx
  have law : ∀ ys : List Fix, (ys.length : Int) ≤ 12 → (∀ x ∈ ys, FixB x) → L_TracksPlain_j2 (sp, s2) (far, s3) ys = some true := by
    intro ys hyl hyB
    obtain ⟨e, e1, e2, e3⟩ := track_eq ys hyB (by omega)
    have hE2 : ∀ x y : Int, L_errs [x, y] = some (orL [x, y]) := fun x y => gOr_eq _ (by simp)
    have hW1 : (if sp < 1 then L_errs [e, L_when true 1] else L_errs [e, L_when (decide ((10000 : Int) < sp)) 1]) = some (orL [e, if sp < 1 ∨ 10000 < sp then 1 else 0]) := by
      rw [hE2, hE2]
      unfold L_when
      by_cases h1 : sp < 1
      · simp [h1]
      · by_cases h2 : 10000 < sp
        · simp [h1, h2]
        · simp [h1, h2]
    have hW2 : (if far < 0 then L_errs [e, L_when true 1] else L_errs [e, L_when (decide ((10000 : Int) < far)) 1]) = some (orL [e, if far < 0 ∨ 10000 < far then 1 else 0]) := by
      rw [hE2, hE2]
      unfold L_when
      by_cases h1 : far < 0
      · simp [h1]
      · by_cases h2 : 10000 < far
        · simp [h1, h2]
        · simp [h1, h2]
    generalize hone : orL [e, if sp < 1 ∨ 10000 < sp then 1 else 0] = one at hW1
    generalize htwo : orL [e, if far < 0 ∨ 10000 < far then 1 else 0] = two at hW2
    have hJ : ∃ w : List Int, place_Jumps ys sp = some (w, one) ∧ (if one = 0 then Q_JumpsOf ys sp = some w else w = []) ∧ w.length ≤ 100000 := by
      unfold place_Jumps
      rw [e1]
      simp only [Option.bind_some]
      rw [Out_eq]
      by_cases he : e = 0
      · by_cases hs : sp < 1 ∨ 10000 < sp
        · have ho : one = 1 := by rw [← hone, he, if_pos hs]; rfl
          rw [if_neg (by simpa using he), if_pos (by simpa using hs), ho]
          exact ⟨[], rfl, by simp, by simp⟩
        · have ho : one = 0 := by rw [← hone, he, if_neg hs]; rfl
          rw [if_neg (by simpa using he), if_neg (by simpa using hs), ho]
          have hc := e3 he
          obtain ⟨hR, hL⟩ := chkX_R hc
          have hmono := track_mono ys (by omega) (by rw [e1, he]) hc
          by_cases hy0 : ys.length = 0
          · have : ys = [] := List.eq_nil_of_length_eq_zero hy0
            subst this
            refine ⟨[], ?_, ?_, by simp⟩
            · unfold place_Jumps_l1; rw [iter_eq, place_Jumps_b1, if_neg (by simp), map_inr_after]
            · rw [if_pos rfl]; unfold Q_JumpsOf Q_JumpsOf_l1; rw [iter_eq, Q_JumpsOf_b1, if_neg (by simp), map_inr_after]
          · obtain ⟨r, r1, r2, r3⟩ := Jumps_loop hR hL hmono (sp := sp) (by omega) (ys.length - 1) 1 0 0 [] (by omega) (by omega) (by omega) (by simp)
            exact ⟨r, r1, by rw [if_pos rfl]; exact r2, r3⟩
      · have ho : one = e := by rw [← hone, orL2, if_pos he]
        rw [if_pos he, ho]
        exact ⟨[], rfl, by rw [if_neg he], by simp⟩
    have hP : ∃ w : List Int, place_Plain ys far = some (w, two) ∧ (if two = 0 then Q_PlainOf ys far = some w else w = []) ∧ w.length ≤ 100000 := by
      unfold place_Plain
      rw [e1]
      simp only [Option.bind_some]
      rw [Out_eq]
      by_cases he : e = 0
      · by_cases hs : far < 0 ∨ 10000 < far
        · have ho : two = 1 := by rw [← htwo, he, if_pos hs]; rfl
          rw [if_neg (by simpa using he), if_pos (by simpa using hs), ho]
          exact ⟨[], rfl, by simp, by simp⟩
        · have ho : two = 0 := by rw [← htwo, he, if_neg hs]; rfl
          rw [if_neg (by simpa using he), if_neg (by simpa using hs), ho]
          have hc := e3 he
          obtain ⟨hR, hL⟩ := chkX_R hc
          obtain ⟨r, r1, r2, r3⟩ := Plain_both hR hL (most := far) (by omega)
          exact ⟨r, r1, by rw [if_pos rfl]; exact r2, r3⟩
      · have ho : two = e := by rw [← htwo, orL2, if_pos he]
        rw [if_pos he, ho]
        exact ⟨[], rfl, by rw [if_neg he], by simp⟩
    obtain ⟨w, w1, w2, w3⟩ := hJ
    obtain ⟨u, u1, u2, u3⟩ := hP
    unfold L_TracksPlain_j2
    simp only [w1, u1, e2, Option.bind_some]
    have j6 : L_TracksPlain_j6 (w, one) (u, two) one two w u = some true := by
      unfold L_TracksPlain_j6 L_TracksPlain_j7
      have q1 : slices_Equal_int_int w w = some true := by have := gEqual_eq w w (by omega); rw [decide_eq_true rfl] at this; exact this
      have q2 : slices_Equal_int_int u u = some true := by have := gEqual_eq u u (by omega); rw [decide_eq_true rfl] at this; exact this
      simp only [if_true, q1, q2, Option.bind_some, placedL_eq]
    have j5 : L_TracksPlain_j5 (far, s3) ys (w, one) (u, two) one two w = some true := by
      unfold L_TracksPlain_j5
      by_cases h : two = 0
      · rw [if_pos h] at u2 ⊢; rw [u2]; exact j6
      · rw [if_neg h] at u2 ⊢; rw [u2] at j6 ⊢; exact j6
    have j4 : L_TracksPlain_j4 (sp, s2) (far, s3) ys (w, one) (u, two) one two = some true := by
      unfold L_TracksPlain_j4
      by_cases h : one = 0
      · rw [if_pos h] at w2 ⊢; rw [w2]; exact j5
      · rw [if_neg h] at w2 ⊢; rw [w2] at j5 ⊢; exact j5
    have j3 : L_TracksPlain_j3 (sp, s2) (far, s3) ys (w, one) (u, two) e one = some true := by
      unfold L_TracksPlain_j3
      by_cases h : far < 0
      · rw [if_pos h] at hW2 ⊢; rw [hW2]; exact j4
      · rw [if_neg h] at hW2 ⊢; rw [hW2]; exact j4
    by_cases h : sp < 1
    · rw [if_pos h] at hW1 ⊢; rw [hW1]; exact j3
    · rw [if_neg h] at hW1 ⊢; rw [hW1]; exact j3
  have go : ∀ c : Bool, (c = true → 0 < xs.length) → L_TracksPlain_j1 (xs, s1) (sp, s2) (far, s3) c = some true := by
    intro c hc
    unfold L_TracksPlain_j1
    cases c with
    | true =>
      have hpos := hc rfl
      simp only [if_true]
      have wl : w64 ((xs.length : Int) - 1) = (xs.length : Int) - 1 := by rw [w64_in] <;> omega
      obtain ⟨y, hy, hym, _⟩ := idx_lt xs (i := (xs.length : Int) - 1) (by omega) (by omega)
      rw [wl, hy]
      simp only [Option.bind_some]
      exact law _ (by simpa using hxl) (inset hxB (by unfold FixB; simp only; omega))
    | false =>
      simp only [Bool.false_eq_true, if_false]
      exact law _ hxl hxB
  by_cases hpos : (0 : Int) < (xs.length : Int)
  · rw [if_pos hpos]
    refine Gen.use (Flip_ok (k := 70) (hs3.less (by omega)) (by omega) (by omega) (by omega)) (fun c s4 hc hs4 => ?_)
    exact go c (fun _ => by omega)
  · rw [if_neg hpos]
    exact go false (fun h => by simp at h)
end Go.Beacon
