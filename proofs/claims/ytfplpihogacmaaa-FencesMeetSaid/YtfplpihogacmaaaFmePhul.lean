/- The hull of spots: the monotone chain's corners follow each other as the gift wrapper finds them. No program in sight. -/
import Derived.Test.YtfplpihogacmaaaFmePplc
set_option linter.unusedVariables false
set_option linter.unusedSimpArgs false
namespace Go.Beacon
open Go Go.Eng

/-! vectors -/
def lxp (x y : Int) : Prop := 0 < x ∨ (x = 0 ∧ 0 < y)
/-- A half of the plane, with one of the two ways along its edge. -/
structure Cone (L : Int → Int → Prop) : Prop where
  tri : ∀ x y, (x = 0 ∧ y = 0) ∨ L x y ∨ L (-x) (-y)
  asym : ∀ x y, L x y → ¬ L (-x) (-y)
  add : ∀ a b c d, L a b → L c d → L (a + c) (b + d)
  vle : ∀ a b c d e f : Int, L a b → L c d → L e f → 0 ≤ a * d - b * c → 0 ≤ c * f - d * e → 0 ≤ a * f - b * e
  vlt : ∀ a b c d e f : Int, L a b → L c d → L e f → 0 ≤ a * d - b * c → 0 ≤ c * f - d * e → (0 < a * d - b * c ∨ 0 < c * f - d * e) → 0 < a * f - b * e
  dst : ∀ a b c d : Int, L a b → L (c - a) (d - b) → c * b - d * a = 0 → a * a + b * b < c * c + d * d
theorem nn_of_mul {c g : Int} (hc : 0 < c) (h : 0 ≤ c * g) : 0 ≤ g := by
  rcases Int.lt_or_le g 0 with hg | hg
  · have := Int.mul_neg_of_pos_of_neg hc hg; omega
  · exact hg
theorem pos_of_mul {c g : Int} (hc : 0 < c) (h : 0 < c * g) : 0 < g := by
  rcases Int.lt_or_le 0 g with hg | hg
  · exact hg
  · have := Int.mul_nonpos_of_nonneg_of_nonpos (Int.le_of_lt hc) hg; omega
theorem mul3 (a b c d e f : Int) : c * (a * f - b * e) = a * (c * f - d * e) + e * (a * d - b * c) := by grind
theorem sq_le_sq {x y : Int} (h0 : 0 ≤ x) (h : x ≤ y) : x * x ≤ y * y := Int.mul_le_mul h h h0 (by omega)
theorem sq_lt_sq {x y : Int} (h0 : 0 ≤ x) (h : x < y) : x * x < y * y := by
  have h1 : x * x ≤ x * y := Int.mul_le_mul_of_nonneg_left (by omega) h0
  have h2 : x * y < y * y := Int.mul_lt_mul_of_pos_right h (by omega)
  omega
theorem abs_sq (x : Int) : ((x.natAbs : Nat) : Int) * ((x.natAbs : Nat) : Int) = x * x := by
  rcases Int.natAbs_eq x with h | h
  · rw [← h]
  · generalize (x.natAbs : Int) = n at h
    subst h; grind
theorem lxp_cone : Cone lxp where
  tri x y := by unfold lxp; omega
  asym x y h := by unfold lxp at *; omega
  add a b c d h1 h2 := by unfold lxp at *; omega
  vle a b c d e f h1 h2 h3 g1 g2 := by
    unfold lxp at h1 h2 h3
    rcases h2 with hc | ⟨rfl, hd⟩
    · refine nn_of_mul hc ?_
      rw [mul3 a b c d e f]
      have := Int.mul_nonneg (show 0 ≤ a by omega) g2
      have := Int.mul_nonneg (show 0 ≤ e by omega) g1
      omega
    · have he : e = 0 := by
        rcases h3 with he | he
        · have := Int.mul_pos hd he; omega
        · exact he.1
      subst he
      have := Int.mul_nonneg (show 0 ≤ a by omega) (show 0 ≤ f by omega)
      omega
  vlt a b c d e f h1 h2 h3 g1 g2 g := by
    unfold lxp at h1 h2 h3
    rcases h2 with hc | ⟨rfl, hd⟩
    · refine pos_of_mul hc ?_
      rw [mul3 a b c d e f]
      have p1 := Int.mul_nonneg (show 0 ≤ a by omega) g2
      have p2 := Int.mul_nonneg (show 0 ≤ e by omega) g1
      have ha : 0 < a := by
        rcases h1 with h | ⟨rfl, hb⟩
        · exact h
        · have := Int.mul_pos hb hc; omega
      rcases g with g | g
      · rcases h3 with he | ⟨rfl, hf⟩
        · have := Int.mul_pos he g; omega
        · have : 0 < c * f := Int.mul_pos hc hf
          have := Int.mul_pos ha (show 0 < c * f - d * 0 by omega)
          omega
      · have := Int.mul_pos ha g; omega
    · have he : e = 0 := by
        rcases h3 with he | he
        · have := Int.mul_pos hd he; omega
        · exact he.1
      subst he
      have hf : 0 < f := by omega
      have ha : 0 < a := by
        rcases h1 with h | ⟨rfl, hb⟩
        · exact h
        · omega
      have := Int.mul_pos ha hf
      omega
  dst a b c d h1 h2 h := by
    unfold lxp at h1 h2
    rcases h1 with ha | ⟨rfl, hb⟩
    · have hac : a < c := by
        rcases h2 with h2 | ⟨h2, h3⟩
        · omega
        · have hc : c = a := by omega
          subst hc
          have := Int.mul_pos ha h3
          have e : c * (d - b) = d * c - c * b := by grind
          omega
      have hl : a * a < c * c := sq_lt_sq (by omega) hac
      have hm : c * (b.natAbs : Int) = a * (d.natAbs : Int) := by
        have e : (c * b).natAbs = (d * a).natAbs := by rw [show c * b = d * a by omega]
        rw [Int.natAbs_mul, Int.natAbs_mul] at e
        have e2 : ((c.natAbs * b.natAbs : Nat) : Int) = ((d.natAbs * a.natAbs : Nat) : Int) := by rw [e]
        rw [Int.natCast_mul, Int.natCast_mul, show ((c.natAbs : Nat) : Int) = c by omega, show ((a.natAbs : Nat) : Int) = a by omega, Int.mul_comm (d.natAbs : Int) a] at e2
        exact e2
      have hbd : (b.natAbs : Int) ≤ (d.natAbs : Int) := by
        rcases Int.lt_or_le (d.natAbs : Int) (b.natAbs : Int) with hlt | hle
        · have q1 : a * (d.natAbs : Int) ≤ a * (b.natAbs : Int) := Int.mul_le_mul_of_nonneg_left (by omega) (by omega)
          have q2 : a * (b.natAbs : Int) < c * (b.natAbs : Int) := Int.mul_lt_mul_of_pos_right hac (by omega)
          omega
        · exact hle
      have := sq_le_sq (x := (b.natAbs : Int)) (y := (d.natAbs : Int)) (by omega) hbd
      rw [abs_sq, abs_sq] at this
      omega
    · have hc : c = 0 := by
        have hcb : c * b = 0 := by omega
        rcases Int.mul_eq_zero.1 hcb with h' | h'
        · exact h'
        · omega
      subst hc
      have := sq_lt_sq (x := b) (y := d) (by omega) (by omega)
      omega
theorem neg_cone : Cone (fun x y => lxp (-x) (-y)) where
  tri x y := by
    rcases lxp_cone.tri (-x) (-y) with h | h | h
    · left; omega
    · exact .inr (.inl h)
    · exact .inr (.inr h)
  asym x y h := by have := lxp_cone.asym (-x) (-y) h; simpa using this
  add a b c d h1 h2 := by have := lxp_cone.add _ _ _ _ h1 h2; simp only [Int.neg_add]; exact this
  vle a b c d e f h1 h2 h3 g1 g2 := by
    have := lxp_cone.vle _ _ _ _ _ _ h1 h2 h3 (by simpa only [Int.neg_mul_neg] using g1) (by simpa only [Int.neg_mul_neg] using g2)
    simpa only [Int.neg_mul_neg] using this
  vlt a b c d e f h1 h2 h3 g1 g2 g := by
    have := lxp_cone.vlt _ _ _ _ _ _ h1 h2 h3 (by simpa only [Int.neg_mul_neg] using g1) (by simpa only [Int.neg_mul_neg] using g2) (by simpa only [Int.neg_mul_neg] using g)
    simpa only [Int.neg_mul_neg] using this
  dst a b c d h1 h2 h := by
    have := lxp_cone.dst (-a) (-b) (-c) (-d) h1 (by rw [show -c - -a = -(c - a) by omega, show -d - -b = -(d - b) by omega]; exact h2) (by simpa only [Int.neg_mul_neg] using h)
    simpa only [Int.neg_mul_neg] using this
/-! spots -/
def crs (a b s : Spot) : Int := (b.X - a.X) * (s.Y - a.Y) - (b.Y - a.Y) * (s.X - a.X)
def dst (a b : Spot) : Int := (b.X - a.X) * (b.X - a.X) + (b.Y - a.Y) * (b.Y - a.Y)
def Ahd (L : Int → Int → Prop) (a b : Spot) : Prop := L (b.X - a.X) (b.Y - a.Y)
theorem crs_sd (a b s : Spot) : sd (GS a) (GS b) (GS s) = crs a b s := rfl
theorem spot_ne {a b : Spot} (h : a ≠ b) : ¬ (b.X - a.X = 0 ∧ b.Y - a.Y = 0) := by
  intro ⟨h1, h2⟩
  apply h
  cases a; cases b; simp only [Spot.mk.injEq] at *; omega
theorem Ahd.tri {L : Int → Int → Prop} (C : Cone L) (a b : Spot) : a = b ∨ Ahd L a b ∨ Ahd L b a := by
  by_cases h : a = b
  · exact .inl h
  · right
    rcases C.tri (b.X - a.X) (b.Y - a.Y) with h' | h' | h'
    · exact (spot_ne h h').elim
    · exact .inl h'
    · right
      unfold Ahd
      rw [show a.X - b.X = -(b.X - a.X) by omega, show a.Y - b.Y = -(b.Y - a.Y) by omega]
      exact h'
theorem Ahd.asym {L : Int → Int → Prop} (C : Cone L) {a b : Spot} (h : Ahd L a b) : ¬ Ahd L b a := by
  intro h'
  unfold Ahd at h h'
  rw [show a.X - b.X = -(b.X - a.X) by omega, show a.Y - b.Y = -(b.Y - a.Y) by omega] at h'
  exact C.asym _ _ h h'
theorem Ahd.trans {L : Int → Int → Prop} (C : Cone L) {a b c : Spot} (h : Ahd L a b) (h' : Ahd L b c) : Ahd L a c := by
  unfold Ahd at *
  have := C.add _ _ _ _ h h'
  rw [show b.X - a.X + (c.X - b.X) = c.X - a.X by omega, show b.Y - a.Y + (c.Y - b.Y) = c.Y - a.Y by omega] at this
  exact this
theorem Ahd.ne {L : Int → Int → Prop} (C : Cone L) {a b : Spot} (h : Ahd L a b) : a ≠ b := by
  rintro rfl; exact h.asym C h
/-- From p on to c: all others lie to the left, or on the way and nearer. -/
def Nx (D : Spot → Prop) (p c : Spot) : Prop := ∀ q, D q → q ≠ p → q ≠ c → 0 < crs p c q ∨ (crs p c q = 0 ∧ dst p q < dst p c)
theorem Nx.nn {D : Spot → Prop} {p c : Spot} (h : Nx D p c) {q : Spot} (hq : D q) : 0 ≤ crs p c q := by
  by_cases h1 : q = p
  · subst h1; unfold crs; simp
  · by_cases h2 : q = c
    · subst h2; unfold crs; grind
    · rcases h q hq h1 h2 with h | h <;> omega
/-- The stack of corners, the last one ahead. -/
def Chn (L : Int → Int → Prop) (D : Spot → Prop) : List Spot → Prop
  | [] => True
  | [a] => ∀ q, D q → q = a ∨ Ahd L a q
  | [a, b] => Ahd L b a ∧ Nx D b a ∧ Chn L D [b]
  | a :: b :: c :: r => Ahd L b a ∧ Nx D b a ∧ 0 < crs c b a ∧ Chn L D (b :: c :: r)
def popS : List Spot → Spot → List Spot
  | a :: b :: r, s => if crs b a s ≤ 0 then popS (b :: r) s else a :: b :: r
  | [a], _ => [a]
  | [], _ => []
def belowOk (t : Spot) (r : List Spot) (s : Spot) : Prop := match r with
  | [] => True
  | b :: _ => 0 < crs b t s
theorem Chn.tail {L : Int → Int → Prop} {D : Spot → Prop} {a b : Spot} {r : List Spot} (h : Chn L D (a :: b :: r)) : Ahd L b a ∧ Nx D b a ∧ Chn L D (b :: r) ∧ belowOk b r a := by
  cases r with
  | nil => exact ⟨h.1, h.2.1, h.2.2, trivial⟩
  | cons c r => exact ⟨h.1, h.2.1, h.2.2.2, h.2.2.1⟩
theorem Chn.mk {L : Int → Int → Prop} {D : Spot → Prop} {a b : Spot} {r : List Spot} (h1 : Ahd L b a) (h2 : Nx D b a) (h3 : Chn L D (b :: r)) (h4 : belowOk b r a) : Chn L D (a :: b :: r) := by
  cases r with
  | nil => exact ⟨h1, h2, h3⟩
  | cons c r => exact ⟨h1, h2, h4, h3⟩
theorem pop_spec {L : Int → Int → Prop} (C : Cone L) {D : Spot → Prop} {s : Spot} (hs : ∀ q, D q → Ahd L q s) : ∀ (r : List Spot) (a : Spot), Chn L D (a :: r) → (∀ x ∈ a :: r, D x) → (∀ q, D q → q = a ∨ Ahd L a q → 0 ≤ crs a s q) →
    ∃ t r', popS (a :: r) s = t :: r' ∧ Chn L D (t :: r') ∧ (∀ x ∈ t :: r', x ∈ a :: r) ∧ (t :: r') <:+ (a :: r) ∧ (∀ q, D q → q = t ∨ Ahd L t q → 0 ≤ crs t s q) ∧ belowOk t r' s
  | [], a, hc, hD, hA => ⟨a, [], rfl, hc, fun x hx => hx, List.suffix_refl _, hA, trivial⟩
  | b :: r, a, hc, hD, hA => by
    unfold popS
    by_cases h : crs b a s ≤ 0
    · rw [if_pos h]
      obtain ⟨h1, h2, h3, h4⟩ := hc.tail
      obtain ⟨t, r', g1, g2, g3, g4, g5, g6⟩ := pop_spec C hs r b h3 (fun x hx => hD x (List.mem_cons_of_mem _ hx)) (fun q hq hbq => by
        rcases hbq with rfl | hbq
        · unfold crs; simp
        · have hqa := h2.nn hq
          rcases Ahd.tri C a q with rfl | hlt | hlt
          · -- q is a
            have e : crs b s a = - crs b a s := by unfold crs; grind
            omega
          · have := hA q hq (.inr hlt)
            have e : crs b s q = crs b a q - crs b a s + crs a s q := by unfold crs; grind
            omega
          · have hbs := hs b (hD b (by simp))
            unfold Ahd at h1 hbq hbs
            have e1 : (s.X - b.X) * (a.Y - b.Y) - (s.Y - b.Y) * (a.X - b.X) = - crs b a s := by unfold crs; grind
            have e2 : (a.X - b.X) * (q.Y - b.Y) - (a.Y - b.Y) * (q.X - b.X) = crs b a q := rfl
            exact C.vle _ _ _ _ _ _ hbs h1 hbq (by omega) (by omega))
      exact ⟨t, r', g1, g2, fun x hx => List.mem_cons_of_mem _ (g3 x hx), g4.trans (List.suffix_cons _ _), g5, g6⟩
    · rw [if_neg h]
      exact ⟨a, b :: r, rfl, hc, fun x hx => hx, List.suffix_refl _, hA, by show 0 < crs b a s; omega⟩
theorem chn_more {L : Int → Int → Prop} (C : Cone L) {D : Spot → Prop} {s : Spot} (hs : ∀ q, D q → Ahd L q s) : ∀ (r : List Spot) (t : Spot), Chn L D (t :: r) → (∀ x ∈ t :: r, D x) → belowOk t r s → Chn L (fun q => q = s ∨ D q) (t :: r)
  | [], t, hc, hD, _ => by
    intro q hq
    rcases hq with rfl | hq
    · exact .inr (hs t (hD t (by simp)))
    · exact hc q hq
  | b :: r, t, hc, hD, hb => by
    obtain ⟨h1, h2, h3, h4⟩ := hc.tail
    refine Chn.mk h1 ?_ (chn_more C hs r b h3 (fun x hx => hD x (List.mem_cons_of_mem _ hx)) ?_) h4
    · intro q hq hq1 hq2
      rcases hq with rfl | hq
      · exact .inl hb
      · exact h2 q hq hq1 hq2
    · cases r with
      | nil => trivial
      | cons c r =>
        have h4' : 0 < crs c b t := h4
        have hb' : 0 < crs b t s := hb
        show 0 < crs c b s
        have hcb := h3.tail.1
        have hts := hs t (hD t (by simp))
        unfold Ahd at h1 hcb hts
        have e1 : (b.X - c.X) * (t.Y - b.Y) - (b.Y - c.Y) * (t.X - b.X) = crs c b t := by unfold crs; grind
        have e2 : (t.X - b.X) * (s.Y - t.Y) - (t.Y - b.Y) * (s.X - t.X) = crs b t s := by unfold crs; grind
        have := C.vlt _ _ _ _ _ _ hcb h1 hts (by omega) (by omega) (.inl (by omega))
        have e3 : crs c b s = crs c b t + ((b.X - c.X) * (s.Y - t.Y) - (b.Y - c.Y) * (s.X - t.X)) := by unfold crs; grind
        omega
theorem push_spec {L : Int → Int → Prop} (C : Cone L) {D : Spot → Prop} {s : Spot} (hs : ∀ q, D q → Ahd L q s) {t : Spot} {r : List Spot} (hc : Chn L D (t :: r)) (hD : ∀ x ∈ t :: r, D x) (hA : ∀ q, D q → q = t ∨ Ahd L t q → 0 ≤ crs t s q) (hb : belowOk t r s) : Chn L (fun q => q = s ∨ D q) (s :: t :: r) := by
  have hts := hs t (hD t (by simp))
  refine Chn.mk hts ?_ (chn_more C hs r t hc hD hb) hb
  intro q hq hq1 hq2
  rcases hq with rfl | hq
  · exact absurd rfl hq2
  · have hqs := hs q hq
    rcases Ahd.tri C t q with rfl | hlt | hlt
    · exact absurd rfl hq1
    · have := hA q hq (.inr hlt)
      rcases Int.lt_or_le 0 (crs t s q) with h | h
      · exact .inl h
      · right
        have h0 : crs t s q = 0 := by omega
        refine ⟨h0, ?_⟩
        unfold Ahd at hlt hqs
        exact C.dst _ _ _ _ hlt (by rw [show s.X - t.X - (q.X - t.X) = s.X - q.X by omega, show s.Y - t.Y - (q.Y - t.Y) = s.Y - q.Y by omega]; exact hqs) h0
    · left
      cases r with
      | nil =>
        rcases hc q hq with rfl | h
        · exact absurd rfl hq1
        · exact (h.asym C hlt).elim
      | cons b r =>
        obtain ⟨h1, h2, h3, h4⟩ := hc.tail
        have hb' : 0 < crs b t s := hb
        have h0 := h2.nn hq
        unfold Ahd at hlt h1 hts
        have e1 : (t.X - q.X) * (t.Y - b.Y) - (t.Y - q.Y) * (t.X - b.X) = crs b t q := by unfold crs; grind
        have e2 : (t.X - b.X) * (s.Y - t.Y) - (t.Y - b.Y) * (s.X - t.X) = crs b t s := by unfold crs; grind
        have := C.vlt _ _ _ _ _ _ hlt h1 hts (by omega) (by omega) (.inr (by omega))
        have e3 : crs t s q = (t.X - q.X) * (s.Y - t.Y) - (t.Y - q.Y) * (s.X - t.X) := by unfold crs; grind
        omega
def halfS : List Spot → List Spot → List Spot
  | st, [] => st
  | st, s :: r => halfS (s :: popS st s) r
/-- The stack of a list that goes one way: it begins with the last spot, ends with the first, and each corner follows the one below as the gift wrapper would go. -/
theorem half_spec {L : Int → Int → Prop} (C : Cone L) : ∀ (xs : List Spot) (D : Spot → Prop) (a : Spot) (r : List Spot), Chn L D (a :: r) → (∀ x ∈ a :: r, D x) → (∀ q, D q → q = a ∨ Ahd L q a) → (a :: xs).Pairwise (Ahd L) →
    ∃ t r', halfS (a :: r) xs = t :: r' ∧ t = (a :: xs).getLast (by simp) ∧ Chn L (fun q => q ∈ xs ∨ D q) (t :: r') ∧ (∀ x ∈ t :: r', x ∈ xs ∨ D x) ∧ (t :: r').getLast (by simp) = (a :: r).getLast (by simp)
  | [], D, a, r, hc, hD, hm, hp => ⟨a, r, rfl, rfl, by
      have : (fun q => q ∈ ([] : List Spot) ∨ D q) = D := by funext q; simp
      rw [this]; exact hc, fun x hx => .inr (hD x hx), rfl⟩
  | s :: xs, D, a, r, hc, hD, hm, hp => by
    rw [List.pairwise_cons] at hp
    have has := hp.1 s (by simp)
    have hs : ∀ q, D q → Ahd L q s := fun q hq => by
      rcases hm q hq with rfl | h
      · exact has
      · exact h.trans C has
    obtain ⟨t, r', g1, g2, g3, g4, g5, g6⟩ := pop_spec C hs r a hc hD (fun q hq h => by
      rcases h with rfl | h
      · unfold crs; simp
      · rcases hm q hq with rfl | h'
        · unfold crs; simp
        · exact (h.asym C h').elim)
    have hD' : ∀ x ∈ t :: r', D x := fun x hx => hD x (g3 x hx)
    have hpush := push_spec C hs g2 hD' g5 g6
    obtain ⟨u, v, k1, k2, k3, k4, k5⟩ := half_spec C xs (fun q => q = s ∨ D q) s (t :: r') hpush (fun x hx => by
      rcases List.mem_cons.1 hx with rfl | hx
      · exact .inl rfl
      · exact .inr (hD' x hx)) (fun q hq => by
      rcases hq with rfl | hq
      · exact .inl rfl
      · exact .inr (hs q hq)) hp.2
    have e : (fun q => q ∈ xs ∨ q = s ∨ D q) = fun q => q ∈ s :: xs ∨ D q := by
      funext q
      simp only [List.mem_cons, eq_iff_iff]
      constructor
      · rintro (h | h | h)
        · exact .inl (.inr h)
        · exact .inl (.inl h)
        · exact .inr h
      · rintro ((h | h) | h)
        · exact .inr (.inl h)
        · exact .inl h
        · exact .inr (.inr h)
    refine ⟨u, v, ?_, ?_, ?_, ?_, ?_⟩
    · show halfS (s :: popS (a :: r) s) xs = _
      rw [g1]; exact k1
    · rw [k2]; simp
    · rw [← e]; exact k3
    · intro x hx
      rcases k4 x hx with h | h | h
      · exact .inl (List.mem_cons_of_mem _ h)
      · exact .inl (by simp [h])
      · exact .inr h
    · rw [k5]
      obtain ⟨p, hp'⟩ := g4
      have : (s :: t :: r').getLast (by simp) = (t :: r').getLast (by simp) := by simp
      rw [this]
      have e2 : (a :: r).getLast (by simp) = (p ++ t :: r').getLast (by simp) := by congr 1; exact hp'.symm
      rw [e2, List.getLast_append_of_ne_nil _ (by simp)]
/-- Each corner and the next. -/
def Lnk (D : Spot → Prop) : List Spot → Prop
  | a :: b :: r => (a ≠ b ∧ Nx D a b) ∧ Lnk D (b :: r)
  | _ => True
theorem Lnk_snoc {D : Spot → Prop} : ∀ (l : List Spot) (b a : Spot), Lnk D (l ++ [b]) → b ≠ a ∧ Nx D b a → Lnk D (l ++ [b, a])
  | [], b, a, _, h => ⟨h, trivial⟩
  | [x], b, a, h1, h => ⟨h1.1, h, trivial⟩
  | x :: y :: l, b, a, h1, h => ⟨h1.1, Lnk_snoc (y :: l) b a h1.2 h⟩
theorem Lnk_app {D : Spot → Prop} : ∀ (l : List Spot) (m : Spot) (r : List Spot), Lnk D (l ++ [m]) → Lnk D (m :: r) → Lnk D (l ++ m :: r)
  | [], m, r, _, h => h
  | [x], m, r, h1, h => ⟨h1.1, h⟩
  | x :: y :: l, m, r, h1, h => ⟨h1.1, Lnk_app (y :: l) m r h1.2 h⟩
theorem chn_lnk {L : Int → Int → Prop} (C : Cone L) {D : Spot → Prop} : ∀ (r : List Spot) (a : Spot), Chn L D (a :: r) → Lnk D (a :: r).reverse ∧ (a :: r).Pairwise (fun x y => Ahd L y x)
  | [], a, _ => ⟨trivial, by simp⟩
  | b :: r, a, h => by
    obtain ⟨h1, h2, h3, h4⟩ := h.tail
    obtain ⟨g1, g2⟩ := chn_lnk C r b h3
    constructor
    · rw [List.reverse_cons, List.reverse_cons]
      rw [List.reverse_cons] at g1
      have := Lnk_snoc r.reverse b a g1 ⟨h1.ne C, h2⟩
      simpa using this
    · refine List.pairwise_cons.2 ⟨fun x hx => ?_, g2⟩
      rcases List.mem_cons.1 hx with rfl | hx
      · exact h1
      · exact ((List.pairwise_cons.1 g2).1 x hx).trans C h1
theorem half_all {L : Int → Int → Prop} (C : Cone L) (a : Spot) (xs : List Spot) (hp : (a :: xs).Pairwise (Ahd L)) : ∃ t r, halfS [] (a :: xs) = t :: r ∧ t = (a :: xs).getLast (by simp) ∧ (t :: r).getLast (by simp) = a ∧ Lnk (fun q => q ∈ a :: xs) (t :: r).reverse ∧ (t :: r).Pairwise (fun x y => Ahd L y x) ∧ (∀ x ∈ t :: r, x ∈ a :: xs) := by
  obtain ⟨t, r, h1, h2, h3, h4, h5⟩ := half_spec C xs (fun q => q = a) a [] (fun q hq => .inl hq) (fun x hx => by simpa using hx) (fun q hq => .inl hq) hp
  have e : (fun q => q ∈ xs ∨ q = a) = fun q => q ∈ a :: xs := by funext q; simp only [List.mem_cons, eq_iff_iff]; exact or_comm
  rw [e] at h3
  obtain ⟨g1, g2⟩ := chn_lnk C r t h3
  refine ⟨t, r, h1, h2, by rw [h5]; simp, g1, g2, fun x hx => ?_⟩
  rcases h4 x hx with h | h
  · exact List.mem_cons_of_mem _ h
  · simp [h]
theorem nodup_sub_len {α : Type} : ∀ {X Y : List α}, X.Pairwise (· ≠ ·) → (∀ x ∈ X, x ∈ Y) → X.length ≤ Y.length
  | [], Y, _, _ => by simp
  | x :: X, Y, h1, h2 => by
    rw [List.pairwise_cons] at h1
    obtain ⟨p, q, rfl⟩ := List.append_of_mem (h2 x (by simp))
    have := nodup_sub_len (Y := p ++ q) h1.2 (fun y hy => by
      have hy2 := h2 y (List.mem_cons_of_mem _ hy)
      have hne := h1.1 y hy
      rcases List.mem_append.1 hy2 with h | h
      · exact List.mem_append_left _ h
      · rcases List.mem_cons.1 h with h | h
        · exact absurd h.symm hne
        · exact List.mem_append_right _ h)
    simp at this ⊢; omega
/-! the gift wrapper -/
def wrp (a : Spot) (nx s : Spot) : Spot := if s = a then nx else if nx = a ∨ crs a nx s < 0 ∨ (crs a nx s = 0 ∧ dst a nx < dst a s) then s else nx
theorem crs_swap (a b c : Spot) : crs a b c = - crs a c b := by unfold crs; grind
theorem wrp_stay {D : Spot → Prop} {a c : Spot} (hn : Nx D a c) (hac : c ≠ a) {s : Spot} (hs : D s) : wrp a c s = c := by
  unfold wrp
  split
  · rfl
  · rename_i h1
    by_cases h2 : s = c
    · subst h2; split <;> rfl
    · rw [if_neg]
      rintro (h | h | h)
      · exact hac h
      · rcases hn s hs h1 h2 with g | g <;> omega
      · rcases hn s hs h1 h2 with g | g <;> omega
theorem wrp_take {D : Spot → Prop} {a c : Spot} (hn : Nx D a c) (hac : c ≠ a) {nx : Spot} (hx : nx = a ∨ D nx) : wrp a nx c = c := by
  unfold wrp
  rw [if_neg hac]
  by_cases h1 : nx = a
  · rw [if_pos (.inl h1)]
  · by_cases h2 : nx = c
    · subst h2; split <;> rfl
    · have hd : D nx := hx.resolve_left h1
      rw [if_pos]
      right
      have := crs_swap a nx c
      rcases hn nx hd h1 h2 with g | g
      · left; omega
      · right; exact ⟨by omega, g.2⟩
theorem wrp_in {D : Spot → Prop} {a nx s : Spot} (hx : nx = a ∨ D nx) (hs : D s) : wrp a nx s = a ∨ D (wrp a nx s) := by
  unfold wrp
  split
  · exact hx
  · split
    · exact .inr hs
    · exact hx
theorem wrp_fold {D : Spot → Prop} {a c : Spot} (hn : Nx D a c) (hac : c ≠ a) : ∀ (xs : List Spot) (nx : Spot), (∀ x ∈ xs, D x) → nx = a ∨ D nx → (nx = c ∨ c ∈ xs) → xs.foldl (wrp a) nx = c
  | [], nx, _, _, h => by
    rcases h with h | h
    · exact h
    · simp at h
  | s :: xs, nx, hD, hx, h => by
    rw [List.foldl_cons]
    have hs := hD s (by simp)
    refine wrp_fold hn hac xs _ (fun x hx => hD x (List.mem_cons_of_mem _ hx)) (wrp_in hx hs) ?_
    rcases h with h | h
    · left; rw [h]; exact wrp_stay hn hac hs
    · rcases List.mem_cons.1 h with rfl | h
      · left; exact wrp_take hn hac hx
      · exact .inr h
end Go.Beacon
