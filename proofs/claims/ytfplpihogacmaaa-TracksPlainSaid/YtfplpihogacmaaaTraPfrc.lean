/- Fractions: lowest terms, products of 128 bits, which of two is less. No program in sight. -/
import Derived.Test.YtfplpihogacmaaaTraPnum
set_option linter.unusedVariables false
set_option linter.unusedSimpArgs false
namespace Go.Beacon
open Go Go.Eng

theorem gcd_step {a b : Int} (hb : b ≠ 0) : Nat.gcd b.natAbs (a.tmod b).natAbs = Nat.gcd a.natAbs b.natAbs := by
  rw [Int.natAbs_tmod, Nat.gcd_comm a.natAbs, Nat.gcd_rec b.natAbs a.natAbs, Nat.gcd_comm]
theorem Gcd_eq {a b : Int} (ha : 0 ≤ a) (hb : 0 ≤ b) : base_Gcd a b = some ((Nat.gcd a.natAbs b.natAbs : Nat) : Int) := by
  unfold base_Gcd base_Gcd_l1
  refine iter_to _ (fun s : Int × Int => s.2.natAbs) (fun s : Int × Int => 0 ≤ s.1 ∧ 0 ≤ s.2 ∧ Nat.gcd s.1.natAbs s.2.natAbs = Nat.gcd a.natAbs b.natAbs) _ ?_ _ ⟨ha, hb, rfl⟩
  rintro ⟨x, y⟩ ⟨h0, h1, h2⟩
  simp only at h0 h1 h2 ⊢
  unfold base_Gcd_b1
  by_cases hy : y = 0
  · rw [if_neg (by simpa using hy)]
    right
    rw [hy] at h2
    simp only [Int.natAbs_zero, Nat.gcd_zero_right] at h2
    rw [← h2]
    simp only [Option.map_some, Option.some.injEq, Sum.inr.injEq]
    omega
  · rw [if_pos hy, rem_ne hy]
    left
    have hlt := Int.tmod_lt_of_pos x (show 0 < y by omega)
    have hnn := Int.tmod_nonneg y h0
    exact ⟨_, rfl, ⟨h1, hnn, by simp only; rw [gcd_step hy]; exact h2⟩, by simp only; omega⟩
theorem Lowest_eq {n d : Int} (hn : -9000000000000000000 ≤ n ∧ n ≤ 9000000000000000000) (hd : 0 < d ∧ d ≤ 9000000000000000000) : Q_Lowest n d = Q_Lowest_j1 n d ((Nat.gcd n.natAbs d.natAbs : Nat) : Int) := by
  unfold Q_Lowest Q_Lowest_l1
  have hg := Nat.gcd_le_right n.natAbs (show 0 < d.natAbs by omega)
  refine iter_to _ (fun s : Int × Int => s.2.natAbs) (fun s : Int × Int => Nat.gcd s.1.natAbs s.2.natAbs = Nat.gcd n.natAbs d.natAbs) _ ?_ _ rfl
  rintro ⟨x, y⟩ h2
  simp only at h2 ⊢
  unfold Q_Lowest_b1
  by_cases hy : y = 0
  · rw [if_neg (by simpa using hy)]
    right
    rw [hy] at h2
    simp only [Int.natAbs_zero, Nat.gcd_zero_right] at h2
    unfold Q_Lowest_k2
    by_cases hx : x < 0
    · rw [if_pos hx, w64_in (by omega) (by omega)]
      rw [show -x = ((Nat.gcd n.natAbs d.natAbs : Nat) : Int) by omega]
    · rw [if_neg hx, show x = ((Nat.gcd n.natAbs d.natAbs : Nat) : Int) by omega]
  · rw [if_pos hy, rem_ne hy]
    left
    refine ⟨_, rfl, by simp only; rw [gcd_step hy]; exact h2, ?_⟩
    simp only
    rw [Int.natAbs_tmod]
    exact Nat.mod_lt _ (by omega)
theorem Fraction_eq {n d : Int} (hn : -9000000000000000000 ≤ n ∧ n ≤ 9000000000000000000) (hd : 0 < d ∧ d ≤ 9000000000000000000) : ∃ f, base_Fraction n d = some f ∧ Q_Lowest n d = some f := by
  rw [Lowest_eq hn hd]
  unfold base_Fraction Q_Lowest_j1
  have e1 : max n (w64 (-n)) = (n.natAbs : Int) := by rw [w64_in (by omega) (by omega)]; omega
  have hg : 0 < Nat.gcd n.natAbs d.natAbs := Nat.gcd_pos_of_pos_right _ (by omega)
  rw [e1, Gcd_eq (by omega) (by omega)]
  simp only [Option.bind_some, Int.natAbs_natCast]
  rw [quo_ne (by omega), quo_ne (by omega)]
  exact ⟨_, rfl, rfl⟩

/-- A fraction from 0 on. -/
def FrB (f : Fraction) : Prop := (0 ≤ f.Num ∧ f.Num ≤ 1000000000000000000) ∧ (1 ≤ f.Den ∧ f.Den ≤ 1000000000)
theorem Fraction_B {n d : Int} (hn : 0 ≤ n ∧ n ≤ 1000000000000000000) (hd : 1 ≤ d ∧ d ≤ 1000000000) : ∃ f, base_Fraction n d = some f ∧ Q_Lowest n d = some f ∧ FrB f := by
  obtain ⟨f, h1, h2⟩ := Fraction_eq (n := n) (d := d) (by omega) (by omega)
  refine ⟨f, h1, h2, ?_⟩
  rw [Lowest_eq (by omega) (by omega)] at h2
  have hgl := Nat.gcd_le_right n.natAbs (show 0 < d.natAbs by omega)
  have hgd := Nat.gcd_dvd_right n.natAbs d.natAbs
  have hg := Nat.gcd_pos_of_pos_right n.natAbs (show 0 < d.natAbs by omega)
  generalize Nat.gcd n.natAbs d.natAbs = g at *
  unfold Q_Lowest_j1 at h2
  rw [quo_pos (by omega) (by omega) (by omega), quo_pos (by omega) (by omega) (by omega)] at h2
  simp only [Option.bind_some, Option.some.injEq] at h2
  subst h2
  have e1 := Int.ediv_nonneg (a := n) (b := (g : Int)) (by omega) (by omega)
  have e2 := Int.ediv_le_self (a := n) (g : Int) (by omega)
  have e3 := Int.ediv_le_self (a := d) (g : Int) (by omega)
  have e4 : 1 ≤ d / (g : Int) := by
    have := Int.ediv_le_ediv (a := (g : Int)) (b := d) (c := (g : Int)) (by omega) (by omega)
    rw [Int.ediv_self (by omega)] at this
    exact this
  exact ⟨⟨by simp only; omega, by simp only; omega⟩, ⟨by simp only; omega, by simp only; omega⟩⟩
/-! products of 128 bits -/
theorem and32 {x : Int} (h0 : 0 ≤ x) (h1 : x < 18446744073709551616) : andI .u64 x 4294967295 = x % 4294967296 := by
  unfold andI
  have e1 : (BitVec.ofInt IntKind.u64.bits x &&& BitVec.ofInt IntKind.u64.bits 4294967295).toNat = x.toNat % 4294967296 := by
    rw [BitVec.toNat_and, BitVec.toNat_ofInt, BitVec.toNat_ofInt]
    have a1 : (x % ((2 ^ IntKind.u64.bits : Nat) : Int)).toNat = x.toNat := by
      rw [show ((2 ^ IntKind.u64.bits : Nat) : Int) = 18446744073709551616 by decide, Int.emod_eq_of_lt h0 h1]
    have a2 : ((4294967295 : Int) % ((2 ^ IntKind.u64.bits : Nat) : Int)).toNat = 2 ^ 32 - 1 := by decide
    rw [a1, a2, Nat.and_two_pow_sub_one_eq_mod]
  rw [e1]
  have e2 : ((x.toNat % 4294967296 : Nat) : Int) = x % 4294967296 := by omega
  rw [e2]
  unfold IntKind.wrap
  simp [IntKind.bits, IntKind.signed]
  omega
theorem shr32 (x : Int) : shrI .u64 x 32 = x / 4294967296 := by
  unfold shrI
  rw [show min (32 : Int).toNat IntKind.u64.bits = 32 by decide, show ((2 : Int) ^ 32) = 4294967296 by decide, Int.fdiv_eq_ediv_of_nonneg _ (by omega)]
theorem wr64 (x : Int) : IntKind.u64.wrap x = x % 18446744073709551616 := by
  unfold IntKind.wrap
  simp [IntKind.bits, IntKind.signed]
theorem Mul64_eq {x y : Int} (hx : 0 ≤ x ∧ x < 18446744073709551616) (hy : 0 ≤ y ∧ y < 18446744073709551616) : math_bits_Mul64x x y = (x * y / 18446744073709551616, x * y % 18446744073709551616) := by
  unfold math_bits_Mul64x
  rw [and32 hx.1 hx.2, and32 hy.1 hy.2, shr32 x, shr32 y, wr64 (x * y)]
  have x0 := Int.emod_nonneg x (show (4294967296 : Int) ≠ 0 by omega)
  have x1 := Int.emod_lt_of_pos x (show (0 : Int) < 4294967296 by omega)
  have y0 := Int.emod_nonneg y (show (4294967296 : Int) ≠ 0 by omega)
  have y1 := Int.emod_lt_of_pos y (show (0 : Int) < 4294967296 by omega)
  have ex := Int.emod_add_mul_ediv x 4294967296
  have ey := Int.emod_add_mul_ediv y 4294967296
  have x2 : 0 ≤ x / 4294967296 ∧ x / 4294967296 ≤ 4294967295 := by omega
  have y2 : 0 ≤ y / 4294967296 ∧ y / 4294967296 ≤ 4294967295 := by omega
  generalize x % 4294967296 = a at *
  generalize y % 4294967296 = c at *
  generalize x / 4294967296 = b at *
  generalize y / 4294967296 = d at *
  -- x = a + 2^32 b, y = c + 2^32 d
  have m1 := mul_bd (a := a) (b := c) (A := 4294967295) (B := 4294967295) (by omega) (by omega) (by omega) (by omega)
  have m2 := mul_bd (a := b) (b := c) (A := 4294967295) (B := 4294967295) (by omega) (by omega) (by omega) (by omega)
  have m3 := mul_bd (a := a) (b := d) (A := 4294967295) (B := 4294967295) (by omega) (by omega) (by omega) (by omega)
  have m4 := mul_bd (a := b) (b := d) (A := 4294967295) (B := 4294967295) (by omega) (by omega) (by omega) (by omega)
  have p1 := Int.mul_nonneg x0 y0
  have p2 := Int.mul_nonneg x2.1 y0
  have p3 := Int.mul_nonneg x0 y2.1
  have p4 := Int.mul_nonneg x2.1 y2.1
  have exy : x * y = a * c + 4294967296 * (b * c) + 4294967296 * (a * d) + 18446744073709551616 * (b * d) := by
    rw [← ex, ← ey]; grind
  have hlt : x * y < 18446744073709551616 * 18446744073709551616 := by
    have q := mul_bd (a := x) (b := y) (A := 18446744073709551615) (B := 18446744073709551615) (by omega) (by omega) (by omega) (by omega)
    omega
  rw [exy] at hlt ⊢
  generalize a * c = e at *
  generalize b * c = f at *
  generalize a * d = g at *
  generalize b * d = k at *
  simp only [shr32, wr64, Prod.mk.injEq, and_true]
  rw [show e % 18446744073709551616 = e by omega, show f % 18446744073709551616 = f by omega, show g % 18446744073709551616 = g by omega, show k % 18446744073709551616 = k by omega]
  rw [show (f + e / 4294967296) % 18446744073709551616 = f + e / 4294967296 by omega]
  rw [and32 (by omega) (by omega)]
  omega
theorem CompareProducts_eq {a b c d : Int} (ha : 0 ≤ a ∧ a ≤ 9223372036854775807) (hb : 0 ≤ b ∧ b ≤ 9223372036854775807) (hc : 0 ≤ c ∧ c ≤ 9223372036854775807) (hd : 0 ≤ d ∧ d ≤ 9223372036854775807) : base_CompareProducts a b c d = cmpI (a * b) (c * d) := by
  unfold base_CompareProducts base_CompareProducts_j1 base_CompareProducts_j3 base_CompareProducts_j2 base_CompareProducts_j4
  rw [u64_in ha.1 ha.2, u64_in hb.1 hb.2, u64_in hc.1 hc.2, u64_in hd.1 hd.2, Mul64_eq (by omega) (by omega), Mul64_eq (by omega) (by omega)]
  generalize a * b = x
  generalize c * d = y
  simp only
  have ex := Int.emod_add_mul_ediv x 18446744073709551616
  have ey := Int.emod_add_mul_ediv y 18446744073709551616
  have x0 := Int.emod_nonneg x (show (18446744073709551616 : Int) ≠ 0 by omega)
  have x1 := Int.emod_lt_of_pos x (show (0 : Int) < 18446744073709551616 by omega)
  have y0 := Int.emod_nonneg y (show (18446744073709551616 : Int) ≠ 0 by omega)
  have y1 := Int.emod_lt_of_pos y (show (0 : Int) < 18446744073709551616 by omega)
  generalize x % 18446744073709551616 = xl at *
  generalize y % 18446744073709551616 = yl at *
  generalize x / 18446744073709551616 = xh at *
  generalize y / 18446744073709551616 = yh at *
  unfold cmpI
  by_cases h1 : xh = yh
  · by_cases h2 : xl < yl
    · have : x < y := by omega
      simp [h1, h2, this]
    · by_cases h3 : xl = yl
      · have n1 : ¬ x < y := by omega
        have n2 : ¬ y < x := by omega
        simp [h1, h3, n1, n2]
      · have n1 : ¬ x < y := by omega
        have n2 : y < x := by omega
        simp [h1, h2, h3, n1, n2]
  · by_cases h2 : xh < yh
    · have : x < y := by omega
      simp [h1, h2, this]
    · have n1 : ¬ x < y := by omega
      have n2 : y < x := by omega
      simp [h1, h2, n1, n2]
def ltF (a b : Fraction) : Bool := decide (a.Num * b.Den < b.Num * a.Den)
theorem less_eq {a b : Fraction} (ha : FrB a) (hb : FrB b) : place_less a b = ltF a b := by
  unfold FrB at ha hb
  unfold place_less ltF
  rw [CompareProducts_eq (by omega) (by omega) (by omega) (by omega)]
  unfold cmpI
  repeat' split
  all_goals simp_all
  all_goals omega
theorem lt_div {a b c d : Int} (hb : 0 < b) (hd : 0 < d) (h : a / b ≠ c / d) : (a * d < c * b ↔ a / b < c / d) := by
  have e1 := Int.emod_add_mul_ediv a b
  have e2 := Int.emod_add_mul_ediv c d
  have r1 := Int.emod_nonneg a (show b ≠ 0 by omega)
  have r2 := Int.emod_lt_of_pos a hb
  have r3 := Int.emod_nonneg c (show d ≠ 0 by omega)
  have r4 := Int.emod_lt_of_pos c hd
  generalize a % b = p at *
  generalize c % d = q at *
  generalize a / b = x at *
  generalize c / d = y at *
  have f1 : a * d = p * d + b * d * x := by rw [← e1]; grind
  have f2 : c * b = q * b + b * d * y := by rw [← e2]; grind
  have hbd := Int.mul_pos hb hd
  have g1 := Int.mul_nonneg r1 (Int.le_of_lt hd)
  have g2 := Int.mul_nonneg r3 (Int.le_of_lt hb)
  have g3 := Int.mul_lt_mul_of_pos_right r2 hd
  have g4 : q * b < b * d := by have := Int.mul_lt_mul_of_pos_right r4 hb; rw [Int.mul_comm d b] at this; exact this
  constructor
  · intro k
    rcases Int.lt_or_gt_of_ne h with k' | k'
    · exact k'
    · exfalso
      have : b * d * (y + 1) ≤ b * d * x := Int.mul_le_mul_of_nonneg_left (by omega) (by omega)
      rw [Int.mul_add, Int.mul_one] at this
      omega
  · intro k
    have : b * d * (x + 1) ≤ b * d * y := Int.mul_le_mul_of_nonneg_left (by omega) (by omega)
    rw [Int.mul_add, Int.mul_one] at this
    omega
theorem Qless_eq {a b : Fraction} (ha : FrB a) (hb : FrB b) : Q_less a b = some (ltF a b) := by
  unfold FrB at ha hb
  unfold Q_less Q_less_l1 ltF
  refine iter_to _ (fun s : Int × Int × Int × Int => s.2.1.toNat + s.2.2.2.toNat) (fun s : Int × Int × Int × Int => (0 ≤ s.1 ∧ s.1 ≤ 1000000000000000000) ∧ (1 ≤ s.2.1 ∧ s.2.1 ≤ 1000000000) ∧ (0 ≤ s.2.2.1 ∧ s.2.2.1 ≤ 1000000000000000000) ∧ (1 ≤ s.2.2.2 ∧ s.2.2.2 ≤ 1000000000) ∧ (s.1 * s.2.2.2 < s.2.2.1 * s.2.1 ↔ a.Num * b.Den < b.Num * a.Den)) _ ?_ _ ⟨ha.1, ha.2, hb.1, hb.2, Iff.rfl⟩
  rintro ⟨n, d, m, e⟩ ⟨h1, h2, h3, h4, h5⟩
  simp only at h1 h2 h3 h4 h5 ⊢
  unfold Q_less_b1
  rw [floor_eq (by omega) (by omega), floor_eq (by omega) (by omega)]
  simp only [Option.bind_some]
  by_cases hq : n / d = m / e
  · rw [if_neg (by simpa using hq)]
    unfold Q_less_j1 Q_less_j2
    have e1 := Int.emod_add_mul_ediv n d
    have e2 := Int.emod_add_mul_ediv m e
    have r1 := Int.emod_nonneg n (show d ≠ 0 by omega)
    have r2 := Int.emod_lt_of_pos n (show 0 < d by omega)
    have r3 := Int.emod_nonneg m (show e ≠ 0 by omega)
    have r4 := Int.emod_lt_of_pos m (show 0 < e by omega)
    have q0 := Int.ediv_nonneg (a := n) (b := d) (by omega) (by omega)
    have q1 := Int.ediv_nonneg (a := m) (b := e) (by omega) (by omega)
    rw [hq] at e1 ⊢
    generalize n % d = p at *
    generalize m % e = q at *
    generalize m / e = y at *
    have f1 : y * d = n - p := by rw [Int.mul_comm]; omega
    have f2 : y * e = m - q := by rw [Int.mul_comm]; omega
    rw [f1, f2, w64_in (x := n - p) (by omega) (by omega), w64_in (x := m - q) (by omega) (by omega), show n - (n - p) = p by omega, show m - (m - q) = q by omega, w64_in (x := p) (by omega) (by omega), w64_in (x := q) (by omega) (by omega)]
    have key : (n * e < m * d ↔ p * e < q * d) := by
      have k1 : n * e = p * e + y * d * e := by rw [f1]; grind
      have k2 : m * d = q * d + y * d * e := by have : y * d * e = y * e * d := by grind
                                                rw [this, f2]; grind
      omega
    by_cases hz : p = 0 ∨ q = 0
    · right
      rw [if_pos (by simpa using hz)]
      simp only [Option.map_some, Option.some.injEq, Sum.inr.injEq]
      rw [Bool.eq_iff_iff]
      simp only [Bool.and_eq_true, decide_eq_true_eq]
      rw [← h5, key]
      rcases hz with hz | hz
      · subst hz
        have hqd : 0 < q * d ↔ 0 < q := by
          constructor
          · intro k
            by_cases k0 : q = 0
            · rw [k0] at k; simp at k
            · omega
          · intro k; exact Int.mul_pos k (by omega)
        rw [Int.zero_mul, hqd]; omega
      · subst hz
        have := Int.mul_nonneg r1 (show 0 ≤ e by omega)
        rw [Int.zero_mul]; omega
    · left
      rw [if_neg (by simpa using hz)]
      refine ⟨_, rfl, ?_, ?_⟩
      · simp only
        refine ⟨by omega, by omega, by omega, by omega, ?_⟩
        rw [← h5, key, Int.mul_comm e p, Int.mul_comm d q]
      · simp only; omega
  · right
    rw [if_pos hq]
    simp only [Option.map_some, Option.some.injEq, Sum.inr.injEq]
    rw [Bool.eq_iff_iff]
    simp only [decide_eq_true_eq]
    rw [← h5, lt_div (by omega) (by omega) hq]
end Go.Beacon
