/- Fractions: lowest terms, products of 128 bits, which of two is less. No program in sight. -/
import Derived.Test.YtblakecmhjcdmaaBukPnum
set_option linter.unusedVariables false
set_option linter.unusedSimpArgs false
namespace Go.Beacon
open Go Go.Eng

theorem gcd_step {a b : Int} (hb : b ≠ 0) : Nat.gcd b.natAbs (a.tmod b).natAbs = Nat.gcd a.natAbs b.natAbs := by
  rw [Int.natAbs_tmod, Nat.gcd_comm a.natAbs, Nat.gcd_rec b.natAbs a.natAbs, Nat.gcd_comm]
theorem Gcd_eq {a b : Int} (ha : 0 ≤ a) (hb : 0 ≤ b) : base_Gcd a b = some ((Nat.gcd a.natAbs b.natAbs : Nat) : Int) := by
  unfold base_Gcd base_Gcd_l1
  refine iter_to _ (fun s : Int × Int => s.2.natAbs) (fun s : Int × Int => 0 ≤ s.1 ∧ 0 ≤ s.2 ∧ Nat.gcd s.1.natAbs s.2.natAbs = Nat.gcd a.natAbs b.natAbs) _ ?_ _ ⟨ha, hb, rfl⟩
  rintro ⟨x, y⟩ ⟨h0, h1, h2⟩
  simp only at h0 h1 h2 ⊢
  unfold base_Gcd_b1
  by_cases hy : y = 0
  · rw [if_neg (by simpa using hy)]
    right
    rw [hy] at h2
    simp only [Int.natAbs_zero, Nat.gcd_zero_right] at h2
    rw [← h2]
    simp only [Option.map_some, Option.some.injEq, Sum.inr.injEq]
    omega
  · rw [if_pos hy, rem_ne hy]
    left
    have hlt := Int.tmod_lt_of_pos x (show 0 < y by omega)
    have hnn := Int.tmod_nonneg y h0
    exact ⟨_, rfl, ⟨h1, hnn, by simp only; rw [gcd_step hy]; exact h2⟩, by simp only; omega⟩
theorem Lowest_eq {n d : Int} (hn : -9000000000000000000 ≤ n ∧ n ≤ 9000000000000000000) (hd : 0 < d ∧ d ≤ 9000000000000000000) : Q_Lowest n d = Q_Lowest_j1 n d ((Nat.gcd n.natAbs d.natAbs : Nat) : Int) := by
  unfold Q_Lowest Q_Lowest_l1
  have hg := Nat.gcd_le_right n.natAbs (show 0 < d.natAbs by omega)
  refine iter_to _ (fun s : Int × Int => s.2.natAbs) (fun s : Int × Int => Nat.gcd s.1.natAbs s.2.natAbs = Nat.gcd n.natAbs d.natAbs) _ ?_ _ rfl
  rintro ⟨x, y⟩ h2
  simp only at h2 ⊢
  unfold Q_Lowest_b1
  by_cases hy : y = 0
  · rw [if_neg (by simpa using hy)]
    right
    rw [hy] at h2
    simp only [Int.natAbs_zero, Nat.gcd_zero_right] at h2
    unfold Q_Lowest_k2
    by_cases hx : x < 0
    · rw [if_pos hx, w64_in (by omega) (by omega)]
      rw [show -x = ((Nat.gcd n.natAbs d.natAbs : Nat) : Int) by omega]
    · rw [if_neg hx, show x = ((Nat.gcd n.natAbs d.natAbs : Nat) : Int) by omega]
  · rw [if_pos hy, rem_ne hy]
    left
    refine ⟨_, rfl, by simp only; rw [gcd_step hy]; exact h2, ?_⟩
    simp only
    rw [Int.natAbs_tmod]
    exact Nat.mod_lt _ (by omega)
theorem Fraction_eq {n d : Int} (hn : -9000000000000000000 ≤ n ∧ n ≤ 9000000000000000000) (hd : 0 < d ∧ d ≤ 9000000000000000000) : ∃ f, base_Fraction n d = some f ∧ Q_Lowest n d = some f := by
  rw [Lowest_eq hn hd]
  unfold base_Fraction Q_Lowest_j1
  have e1 : max n (w64 (-n)) = (n.natAbs : Int) := by rw [w64_in (by omega) (by omega)]; omega
  have hg : 0 < Nat.gcd n.natAbs d.natAbs := Nat.gcd_pos_of_pos_right _ (by omega)
  rw [e1, Gcd_eq (by omega) (by omega)]
  simp only [Option.bind_some, Int.natAbs_natCast]
  rw [quo_ne (by omega), quo_ne (by omega)]
  exact ⟨_, rfl, rfl⟩

/-- A fraction from 0 on. -/
def FrB (f : Fraction) : Prop := (0 ≤ f.Num ∧ f.Num ≤ 1000000000000000000) ∧ (1 ≤ f.Den ∧ f.Den ≤ 1000000000)
theorem Fraction_B {n d : Int} (hn : 0 ≤ n ∧ n ≤ 1000000000000000000) (hd : 1 ≤ d ∧ d ≤ 1000000000) : ∃ f, base_Fraction n d = some f ∧ Q_Lowest n d = some f ∧ FrB f := by
  obtain ⟨f, h1, h2⟩ := Fraction_eq (n := n) (d := d) (by omega) (by omega)
  refine ⟨f, h1, h2, ?_⟩
  rw [Lowest_eq (by omega) (by omega)] at h2
  have hgl := Nat.gcd_le_right n.natAbs (show 0 < d.natAbs by omega)
  have hgd := Nat.gcd_dvd_right n.natAbs d.natAbs
  have hg := Nat.gcd_pos_of_pos_right n.natAbs (show 0 < d.natAbs by omega)
  generalize Nat.gcd n.natAbs d.natAbs = g at *
  unfold Q_Lowest_j1 at h2
  rw [quo_pos (by omega) (by omega) (by omega), quo_pos (by omega) (by omega) (by omega)] at h2
  simp only [Option.bind_some, Option.some.injEq] at h2
  subst h2
  have e1 := Int.ediv_nonneg (a := n) (b := (g : Int)) (by omega) (by omega)
  have e2 := Int.ediv_le_self (a := n) (g : Int) (by omega)
  have e3 := Int.ediv_le_self (a := d) (g : Int) (by omega)
  have e4 : 1 ≤ d / (g : Int) := by
    have := Int.ediv_le_ediv (a := (g : Int)) (b := d) (c := (g : Int)) (by omega) (by omega)
    rw [Int.ediv_self (by omega)] at this
    exact this
  exact ⟨⟨by simp only; omega, by simp only; omega⟩, ⟨by simp only; omega, by simp only; omega⟩⟩
/-! products of 128 bits -/
theorem and32 {x : Int} (h0 : 0 ≤ x) (h1 : x < 18446744073709551616) : andI .u64 x 4294967295 = x % 4294967296 := by
  unfold andI
  have e1 : (BitVec.ofInt IntKind.u64.bits x &&& BitVec.ofInt IntKind.u64.bits 4294967295).toNat = x.toNat % 4294967296 := by
    rw [BitVec.toNat_and, BitVec.toNat_ofInt, BitVec.toNat_ofInt]
    have a1 : (x % ((2 ^ IntKind.u64.bits : Nat) : Int)).toNat = x.toNat := by
      rw [show ((2 ^ IntKind.u64.bits : Nat) : Int) = 18446744073709551616 by decide, Int.emod_eq_of_lt h0 h1]
    have a2 : ((4294967295 : Int) % ((2 ^ IntKind.u64.bits : Nat) : Int)).toNat = 2 ^ 32 - 1 := by decide
    rw [a1, a2, Nat.and_two_pow_sub_one_eq_mod]
  rw [e1]
  have e2 : ((x.toNat % 4294967296 : Nat) : Int) = x % 4294967296 := by omega
  rw [e2]
  unfold IntKind.wrap
  simp [IntKind.bits, IntKind.signed]
  omega
theorem shr32 (x : Int) : shrI .u64 x 32 = x / 4294967296 := by
  unfold shrI
  rw [show min (32 : Int).toNat IntKind.u64.bits = 32 by decide, show ((2 : Int) ^ 32) = 4294967296 by decide, Int.fdiv_eq_ediv_of_nonneg _ (by omega)]
theorem wr64 (x : Int) : IntKind.u64.wrap x = x % 18446744073709551616 := by
  unfold IntKind.wrap
  simp [IntKind.bits, IntKind.signed]
def ltF (a b : Fraction) : Bool := decide (a.Num * b.Den < b.Num * a.Den)
theorem lt_div {a b c d : Int} (hb : 0 < b) (hd : 0 < d) (h : a / b ≠ c / d) : (a * d < c * b ↔ a / b < c / d) := by
  have e1 := Int.emod_add_mul_ediv a b
  have e2 := Int.emod_add_mul_ediv c d
  have r1 := Int.emod_nonneg a (show b ≠ 0 by omega)
  have r2 := Int.emod_lt_of_pos a hb
  have r3 := Int.emod_nonneg c (show d ≠ 0 by omega)
  have r4 := Int.emod_lt_of_pos c hd
  generalize a % b = p at *
  generalize c % d = q at *
  generalize a / b = x at *
  generalize c / d = y at *
  have f1 : a * d = p * d + b * d * x := by rw [← e1]; grind
  have f2 : c * b = q * b + b * d * y := by rw [← e2]; grind
  have hbd := Int.mul_pos hb hd
  have g1 := Int.mul_nonneg r1 (Int.le_of_lt hd)
  have g2 := Int.mul_nonneg r3 (Int.le_of_lt hb)
  have g3 := Int.mul_lt_mul_of_pos_right r2 hd
  have g4 : q * b < b * d := by have := Int.mul_lt_mul_of_pos_right r4 hb; rw [Int.mul_comm d b] at this; exact this
  constructor
  · intro k
    rcases Int.lt_or_gt_of_ne h with k' | k'
    · exact k'
    · exfalso
      have : b * d * (y + 1) ≤ b * d * x := Int.mul_le_mul_of_nonneg_left (by omega) (by omega)
      rw [Int.mul_add, Int.mul_one] at this
      omega
  · intro k
    have : b * d * (x + 1) ≤ b * d * y := Int.mul_le_mul_of_nonneg_left (by omega) (by omega)
    rw [Int.mul_add, Int.mul_one] at this
    omega
end Go.Beacon
