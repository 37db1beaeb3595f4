/- Numbers in sevens, and packing: the program's and the reference's. No program in sight. -/
import Derived.Test.YtbcbhhbbejcnnaaPckPnum
import Derived.Test.YtbcbhhbbejcnnaaPckPmeas
set_option linter.unusedVariables false
set_option linter.unusedSimpArgs false
namespace Go.Beacon
open Go Go.Eng

/-! bits -/
theorem ofInt_toNat {w : Nat} {n : Int} (h0 : 0 ≤ n) (h1 : n < 2 ^ w) : (BitVec.ofInt w n).toNat = n.toNat := by
  obtain ⟨m, rfl⟩ := Int.eq_ofNat_of_zero_le h0
  rw [BitVec.ofInt_natCast, BitVec.toNat_ofNat, Int.toNat_natCast]
  exact Nat.mod_eq_of_lt (by exact_mod_cast h1)
theorem p64 : (2 : Int) ^ IntKind.u64.bits = 18446744073709551616 := rfl
theorem and64 {n : Int} (h0 : 0 ≤ n) (h1 : n < 9223372036854775808) : andI .u64 n 127 = n % 128 := by
  unfold andI
  rw [BitVec.toNat_and, ofInt_toNat h0 (by rw [p64]; omega), ofInt_toNat (by decide) (by rw [p64]; omega)]
  have : n.toNat &&& (127 : Int).toNat = n.toNat % 128 := Nat.and_two_pow_sub_one_eq_mod n.toNat 7
  rw [this, u64_in (by omega) (by omega)]; omega
theorem and8_fin : ∀ n : Fin 256, andI .u8 (n.val : Int) 127 = (n.val : Int) % 128 := by decide +kernel
theorem and8 {n : Int} (h0 : 0 ≤ n) (h1 : n < 256) : andI .u8 n 127 = n % 128 := by
  have := and8_fin ⟨n.toNat, by omega⟩
  simp only at this
  rw [show ((n.toNat : Nat) : Int) = n by omega] at this
  exact this
theorem or8_fin : ∀ n : Fin 128, orI .u8 (n.val : Int) 128 = (n.val : Int) + 128 := by decide +kernel
theorem or8 {n : Int} (h0 : 0 ≤ n) (h1 : n < 128) : orI .u8 n 128 = n + 128 := by
  have := or8_fin ⟨n.toNat, by omega⟩
  simp only at this
  rw [show ((n.toNat : Nat) : Int) = n by omega] at this
  exact this
theorem or64 {a x : Int} {i : Nat} (ha : 0 ≤ a) (ha' : a < 2 ^ i) (hx : 0 ≤ x) (hb : x * 2 ^ i + a < 9223372036854775808) : orI .u64 a (x * 2 ^ i) = a + x * 2 ^ i := by
  obtain ⟨A, rfl⟩ := Int.eq_ofNat_of_zero_le ha
  obtain ⟨X, rfl⟩ := Int.eq_ofNat_of_zero_le hx
  have hA : A < 2 ^ i := by exact_mod_cast ha'
  have e1 : ((X : Int) * 2 ^ i) = ((X * 2 ^ i : Nat) : Int) := by rw [Int.natCast_mul, Int.natCast_pow]; rfl
  rw [e1] at hb
  have hs : X * 2 ^ i + A < 9223372036854775808 := by omega
  unfold orI
  rw [e1, BitVec.toNat_or, ofInt_toNat (by omega) (by rw [p64]; omega), ofInt_toNat (by omega) (by rw [p64]; omega)]
  simp only [Int.toNat_natCast]
  rw [Nat.or_comm, ← Nat.shiftLeft_eq, ← Nat.shiftLeft_add_eq_or_of_lt hA, Nat.shiftLeft_eq, u64_in (by omega) (by omega)]
  omega
theorem u64_nonneg (x : Int) : 0 ≤ IntKind.u64.wrap x := by
  unfold IntKind.wrap
  simp [IntKind.bits, IntKind.signed]
  omega
theorem or64_nonneg (a b : Int) : 0 ≤ orI .u64 a b := u64_nonneg _

/-! numbers in sevens -/
def svF : Nat → Int → List Int
  | 0, n => [n]
  | f + 1, n => if n < 128 then [n] else (n % 128 + 128) :: svF f (n / 128)
def sv (n : Int) : List Int := svF 7 n
theorem svF_len : ∀ (f : Nat) (n : Int), (svF f n).length ≤ f + 1
  | 0, n => by simp [svF]
  | f + 1, n => by
    simp only [svF]
    split
    · simp
    · have := svF_len f (n / 128); simp; omega
theorem sv_len (n : Int) : (sv n).length ≤ 8 := svF_len 7 n
theorem pow_step {n : Int} {f : Nat} (h : n < 128 ^ (f + 1 + 1)) : n / 128 < 128 ^ (f + 1) := by
  rw [Int.ediv_lt_iff_lt_mul (by omega)]
  rwa [Int.pow_succ] at h
theorem seven_loop : ∀ (f : Nat) (n : Int) (l : List Int), 0 ≤ n → n < 128 ^ (f + 1) → n < 9223372036854775808 → l.length + f + 1 ≤ 1000000000 → series_seven_o0x_l1 l n = some (l ++ svF f n) := by
  have last : ∀ (n : Int) (l : List Int), 0 ≤ n → n < 128 → l.length + 1 ≤ 1000000000 → series_seven_o0x_l1 l n = some (l ++ [n]) := by
    intro n l h0 h1 hl
    unfold series_seven_o0x_l1
    rw [iter_eq, series_seven_o0x_b1, if_neg (by simp only; omega), map_inr_after]
    unfold series_seven_o0x_k1
    simp only
    rw [u8_in h0 (by omega), app_le (by simp; omega)]; rfl
  intro f
  induction f with
  | zero => intro n l h0 h1 h2 hl; exact last n l h0 (by simpa using h1) (by omega)
  | succ f ih =>
    intro n l h0 h1 h2 hl
    simp only [svF]
    by_cases hn : n < 128
    · rw [if_pos hn]; exact last n l h0 hn (by omega)
    · rw [if_neg hn]
      unfold series_seven_o0x_l1 at ih ⊢
      rw [iter_eq, series_seven_o0x_b1, if_pos (by simp only; omega)]
      simp only
      have e1 : shrI .u64 n 7 = n / 128 := by
        show n.fdiv 128 = _
        rw [Int.fdiv_eq_ediv_of_nonneg _ (by omega)]
      rw [and64 h0 h2, u8_in (by omega) (by omega), or8 (by omega) (by omega), app_le (by simp; omega), e1]
      simp only [Option.bind_some, after_inl]
      rw [ih (n / 128) _ (by omega) (pow_step h1) (by omega) (by simp; omega)]
      simp
theorem seven_o (l : List Int) {n : Int} (h0 : 0 ≤ n) (h1 : n < 72057594037927936) (hl : l.length ≤ 900000000) : series_seven_o0x l n = some (l ++ sv n) :=
  seven_loop 7 n l h0 (by simpa using h1) (by omega) (by omega)
theorem seven_n {n : Int} (h0 : 0 ≤ n) (h1 : n < 72057594037927936) : series_seven_n0x n = some (sv n) := by
  have h : series_seven_n0x n = series_seven_o0x [] n := rfl
  rw [h, seven_o [] h0 h1 (by simp)]; rfl
theorem sevens_r : ∀ (f k : Nat) (n : Int), 0 ≤ n → n < 128 ^ (f + 1) → n < 9223372036854775808 → f < k → f ≤ 100 → Q_sevens_r k n = some (svF f n) := by
  intro f
  induction f with
  | zero =>
    intro k n h0 h1 h2 hk hf
    obtain ⟨k, rfl⟩ : ∃ j, k = j + 1 := ⟨k - 1, by omega⟩
    simp only [Q_sevens_r]
    unfold Q_sevens_bd
    have h1' : n < 128 := by simpa using h1
    rw [if_pos h1', u8_in h0 (by omega)]; rfl
  | succ f ih =>
    intro k n h0 h1 h2 hk hf
    obtain ⟨k, rfl⟩ : ∃ j, k = j + 1 := ⟨k - 1, by omega⟩
    simp only [Q_sevens_r, svF]
    unfold Q_sevens_bd
    by_cases hn : n < 128
    · rw [if_pos hn, if_pos hn, u8_in h0 (by omega)]
    · rw [if_neg hn, if_neg hn, Int.tdiv_eq_ediv_of_nonneg h0, Int.tmod_eq_emod_of_nonneg h0, w64_in (x := n / 128) (by omega) (by omega), ih k (n / 128) (by omega) (pow_step h1) (by omega) (by omega) (by omega)]
      have := svF_len f (n / 128)
      simp only [Option.bind_some]
      rw [w64_in (by omega) (by omega), u8_in (by omega) (by omega), app_le (by simp; omega)]
      rfl
theorem sevens_eq {n : Int} (h0 : 0 ≤ n) (h1 : n < 72057594037927936) : Q_sevens n = some (sv n) :=
  sevens_r 7 depth n h0 (by simpa using h1) (by omega) (by decide) (by omega)
def dbl (z : Int) : Int := if z < 0 then -2 * z - 1 else 2 * z
theorem dbl_bd {z : Int} (h : -4611686018427387 ≤ z ∧ z ≤ 4611686018427387) : 0 ≤ dbl z ∧ dbl z < 72057594037927936 := by
  unfold dbl; split <;> omega
theorem doubled_eq {z : Int} (h : -4611686018427387 ≤ z ∧ z ≤ 4611686018427387) : series_doubled z = dbl z := by
  unfold series_doubled dbl
  split
  · rw [w64_in (x := -2 * z) (by omega) (by omega), w64_in (by omega) (by omega), u64_in (by omega) (by omega)]
  · rw [w64_in (by omega) (by omega), u64_in (by omega) (by omega)]
theorem turned_eq {z : Int} (h : -4611686018427387 ≤ z ∧ z ≤ 4611686018427387) : Q_turned z = dbl z := by
  unfold Q_turned dbl
  split
  · rw [w64_in (x := -2 * z) (by omega) (by omega), w64_in (by omega) (by omega)]
  · rw [w64_in (by omega) (by omega)]
theorem halved_eq {z : Int} (h : -4611686018427387 ≤ z ∧ z ≤ 4611686018427387) : series_halved (dbl z) = z := by
  have hb := dbl_bd h
  unfold series_halved
  rw [Int.tmod_eq_emod_of_nonneg hb.1, Int.tdiv_eq_ediv_of_nonneg hb.1, u64_in (by omega) (by omega), w64_in (x := dbl z / 2) (by omega) (by omega)]
  rw [w64_in (x := -(dbl z / 2)) (by omega) (by omega), w64_in (by omega) (by omega)]
  unfold dbl
  split <;> split <;> omega
theorem back_eq {z : Int} (h : -4611686018427387 ≤ z ∧ z ≤ 4611686018427387) : Q_back (dbl z) = z := by
  have hb := dbl_bd h
  unfold Q_back
  rw [Int.tmod_eq_emod_of_nonneg hb.1, Int.tdiv_eq_ediv_of_nonneg hb.1, w64_in (x := dbl z + 1) (by omega) (by omega), w64_in (x := -(dbl z + 1)) (by omega) (by omega), w64_in (x := dbl z / 2) (by omega) (by omega)]
  have e : (-(dbl z + 1)).tdiv 2 = -((dbl z + 1) / 2) := by rw [Int.neg_tdiv, Int.tdiv_eq_ediv_of_nonneg (by omega)]
  rw [e, w64_in (by omega) (by omega)]
  unfold dbl
  split <;> split <;> omega

/-! packing -/
def pk : List Sample → Int → Int → Int → Bool → List Int
  | [], _, _, _, _ => []
  | s :: r, a, g, v, first => sv (dbl (s.At - a - g)) ++ (sv (dbl (s.Value - v)) ++ pk r s.At (if first = true then 0 else s.At - a) s.Value false)
theorem pk_len : ∀ (xs : List Sample) (a g v : Int) (f : Bool), (pk xs a g v f).length ≤ 16 * xs.length
  | [], a, g, v, f => by simp [pk]
  | s :: r, a, g, v, f => by
    have := pk_len r s.At (if f = true then 0 else s.At - a) s.Value false
    have := sv_len (dbl (s.At - a - g)); have := sv_len (dbl (s.Value - v))
    simp only [pk, List.length_append, List.length_cons]; omega
def packL (xs : List Sample) : List Int := sv xs.length ++ pk xs 0 0 0 true
theorem packL_len (xs : List Sample) : (packL xs).length ≤ 16 * xs.length + 8 := by
  have := pk_len xs 0 0 0 true; have := sv_len xs.length
  unfold packL; simp; omega
theorem pack_loop (xs : List Sample) (hB : ∀ x ∈ xs, SampB x) (hl : (xs.length : Int) ≤ 5000) : ∀ (n : Nat) (l : List Int) (a g v i : Int), 0 ≤ i → i + n = xs.length → (l.length : Int) ≤ 16 * i + 8 → (-4398046511104 ≤ a ∧ a ≤ 4398046511104) → (-8796093022208 ≤ g ∧ g ≤ 8796093022208) → (-4398046511104 ≤ v ∧ v ≤ 4398046511104) → (i = 0 → g = 0) →
    series_pack_l1 xs l a g v i = some (l ++ pk (xs.drop i.toNat) a g v (decide (i = 0))) ∧ Q_PackOf_l1 xs l a g v i = some (l ++ pk (xs.drop i.toNat) a g v (decide (i = 0))) := by
  intro n
  induction n with
  | zero =>
    intro l a g v i h0 h1 h2 h3 h4 h5 h6
    unfold series_pack_l1 Q_PackOf_l1
    rw [iter_eq, series_pack_b1, if_neg (by simp only; omega), map_inr_after, iter_eq, Q_PackOf_b1, if_neg (by simp only; omega), map_inr_after, List.drop_of_length_le (by omega)]
    simp [pk]
  | succ n ih =>
    intro l a g v i h0 h1 h2 h3 h4 h5 h6
    obtain ⟨x, hx, hxm, hd⟩ := idx_lt xs h0 (by omega)
    have b1 := (hB x hxm).1; have b2 := (hB x hxm).2
    have w1 : w64 (i + 1) = i + 1 := by rw [w64_in] <;> omega
    have w2 : w64 (x.At - a) = x.At - a := by rw [w64_in] <;> omega
    have w3 : w64 (x.At - a - g) = x.At - a - g := by rw [w64_in] <;> omega
    have w4 : w64 (x.Value - v) = x.Value - v := by rw [w64_in] <;> omega
    have d1 := dbl_bd (z := x.At - a - g) (by omega)
    have d2 := dbl_bd (z := x.Value - v) (by omega)
    have s1 := sv_len (dbl (x.At - a - g)); have s2 := sv_len (dbl (x.Value - v))
    unfold series_pack_l1 Q_PackOf_l1 at ih ⊢
    rw [iter_eq, series_pack_b1, if_pos (by simp only; omega), iter_eq, Q_PackOf_b1, if_pos (by simp only; omega), hd]
    simp only [hx, Option.bind_some, w2, w3, w4]
    rw [doubled_eq (by omega), doubled_eq (by omega), turned_eq (by omega), turned_eq (by omega), seven_o l d1.1 d1.2 (by omega), sevens_eq d1.1 d1.2, sevens_eq d2.1 d2.2]
    simp only [Option.bind_some]
    rw [seven_o _ d2.1 d2.2 (by simp; omega), app_le (by omega)]
    simp only [Option.bind_some]
    rw [app_le (by simp; omega)]
    simp only [Option.bind_some]
    unfold series_pack_j1 Q_PackOf_j1
    rw [w1]
    simp only [pk]
    have hfalse : decide (i + 1 = 0) = false := by simp; omega
    by_cases hi : i = 0
    · have hg := h6 hi
      obtain ⟨r1, r2⟩ := ih (l ++ sv (dbl (x.At - a - g)) ++ sv (dbl (x.Value - v))) x.At 0 x.Value (i + 1) (by omega) (by omega) (by simp; omega) b1 (by omega) b2 (by omega)
      rw [hfalse] at r1 r2
      rw [if_neg (show ¬ (0 : Int) < i by omega), if_pos hi, decide_eq_true hi, if_pos rfl]
      simp only [Option.bind_some, after_inl]
      rw [hg] at r1 r2 ⊢
      rw [r1, r2]
      simp
    · obtain ⟨r1, r2⟩ := ih (l ++ sv (dbl (x.At - a - g)) ++ sv (dbl (x.Value - v))) x.At (x.At - a) x.Value (i + 1) (by omega) (by omega) (by simp; omega) b1 (by omega) b2 (by omega)
      rw [hfalse] at r1 r2
      rw [if_pos (show (0 : Int) < i by omega), if_neg hi, decide_eq_false hi, if_neg (by simp)]
      simp only [Option.bind_some, after_inl]
      rw [r1, r2]
      simp
theorem pack_eq (xs : List Sample) (hB : ∀ x ∈ xs, SampB x) (hl : (xs.length : Int) ≤ 5000) : series_pack xs = some (packL xs) ∧ Q_PackOf xs = some (packL xs) := by
  unfold series_pack Q_PackOf
  have s1 := sv_len xs.length
  rw [u64_in (by omega) (by omega), seven_n (by omega) (by omega), sevens_eq (by omega) (by omega)]
  simp only [Option.bind_some]
  exact pack_loop xs hB hl xs.length (sv xs.length) 0 0 0 0 (by omega) (by omega) (by omega) (by omega) (by omega) (by omega) (fun _ => rfl)

/-! reading numbers -/
theorem pow7 (i : Nat) : (2 : Int) ^ (7 * (i + 1)) = 128 * 2 ^ (7 * i) := by
  rw [Nat.mul_add, Int.pow_add, Int.mul_comm]; rfl
theorem pow_le (i j : Nat) (h : i ≤ j) : (2 : Int) ^ i ≤ 2 ^ j := by
  have := Nat.pow_le_pow_right (n := 2) (by omega) h
  exact_mod_cast this
theorem shl_u {x : Int} {i : Nat} (h0 : 0 ≤ x) (h1 : x < 128) (hi : i ≤ 7) : shlO .u64 x (7 * (i : Int)) = some (x * 2 ^ (7 * i)) ∧ shlO .i64 x (7 * (i : Int)) = some (x * 2 ^ (7 * i)) := by
  have hp := pow_le (7 * i) 49 (by omega)
  have hp0 : (0 : Int) < 2 ^ (7 * i) := Int.pow_pos (by omega)
  have e1 : (7 * (i : Int)).toNat = 7 * i := by omega
  have b1 : x * 2 ^ (7 * i) ≤ 128 * 2 ^ 49 := Int.mul_le_mul (by omega) hp (by omega) (by omega)
  have b0 : 0 ≤ x * 2 ^ (7 * i) := Int.mul_nonneg h0 (by omega)
  have b1' : x * 2 ^ (7 * i) ≤ 72057594037927936 := by simpa using b1
  unfold shlO shlI
  rw [if_neg (by omega), if_neg (by omega), e1]
  have m1 : min (7 * i) IntKind.u64.bits = 7 * i := by show min (7 * i) 64 = _; omega
  have m2 : min (7 * i) IntKind.i64.bits = 7 * i := by show min (7 * i) 64 = _; omega
  rw [m1, m2, u64_in b0 (by omega), wrap_in (by omega) (by omega)]
  exact ⟨rfl, rfl⟩
theorem read_loop (b : List Int) (rest : List Int) : ∀ (f : Nat) (n acc : Int) (i : Nat) (pre : List Int), b = pre ++ (svF f n ++ rest) → pre.length = i → 0 ≤ acc → acc < 2 ^ (7 * i) → 0 ≤ n → n < 128 ^ (f + 1) → f + i ≤ 7 → acc + n * 2 ^ (7 * i) < 9223372036854775808 →
    series_unseven_l1 b acc i = some (acc + n * 2 ^ (7 * i), rest, true) ∧ Q_takeSeven_l1 b acc i = some (acc + n * 2 ^ (7 * i), rest, true) := by
  have last : ∀ (n acc : Int) (i : Nat) (pre : List Int), b = pre ++ (n :: rest) → pre.length = i → 0 ≤ acc → acc < 2 ^ (7 * i) → 0 ≤ n → n < 128 → i ≤ 7 → acc + n * 2 ^ (7 * i) < 9223372036854775808 →
      series_unseven_l1 b acc i = some (acc + n * 2 ^ (7 * i), rest, true) ∧ Q_takeSeven_l1 b acc i = some (acc + n * 2 ^ (7 * i), rest, true) := by
    intro n acc i pre hb hp h0 h1 h2 h3 h4 h5
    have hlen : b.length = i + 1 + rest.length := by rw [hb]; simp; omega
    have hx : idx b i = some n := by
      unfold idx
      rw [if_pos (by omega), hb]
      simp [hp]
    have hs : slc b (i + 1) b.length = some rest := by
      rw [slc_in (by omega) (by omega) (by omega), hb]
      rw [show ((i : Int) + 1).toNat = (pre ++ [n]).length by simp; omega]
      rw [show pre ++ n :: rest = (pre ++ [n]) ++ rest by simp, List.drop_left]
      rw [List.take_of_length_le]
      simp; omega
    have b0 : 0 ≤ n * 2 ^ (7 * i) := Int.mul_nonneg h2 (Int.le_of_lt (Int.pow_pos (by omega)))
    obtain ⟨s1, s2⟩ := shl_u h2 h3 h4
    unfold series_unseven_l1 Q_takeSeven_l1
    rw [iter_eq, series_unseven_b1, if_pos (by simp only; omega), iter_eq, Q_takeSeven_b1, if_pos (by simp only; omega)]
    simp only [hx, Option.bind_some]
    rw [if_neg (by omega), if_neg (by omega), and8 h2 (by omega), Int.emod_eq_of_lt h2 h3, u64_in h2 (by omega), w64_in (x := n) (by omega) (by omega), w64_in (x := 7 * (i : Int)) (by omega) (by omega), s1, s2]
    simp only [Option.bind_some]
    rw [if_pos h3, if_pos h3, w64_in (x := (i : Int) + 1) (by omega) (by omega), hs]
    simp only [Option.bind_some, map_inr_after]
    rw [or64 h0 h1 h2 (by omega), w64_in (by omega) (by omega)]
    exact ⟨rfl, rfl⟩
  intro f
  induction f with
  | zero =>
    intro n acc i pre hb hp h0 h1 h2 h3 h4 h5
    exact last n acc i pre (by simpa [svF] using hb) hp h0 h1 h2 (by simpa using h3) (by omega) h5
  | succ f ih =>
    intro n acc i pre hb hp h0 h1 h2 h3 h4 h5
    simp only [svF] at hb
    by_cases hn : n < 128
    · rw [if_pos hn] at hb
      exact last n acc i pre (by simpa using hb) hp h0 h1 h2 hn (by omega) h5
    · rw [if_neg hn] at hb
      have hlen : b.length = i + 1 + (svF f (n / 128)).length + rest.length := by rw [hb]; simp; omega
      have hx : idx b i = some (n % 128 + 128) := by
        unfold idx
        rw [if_pos (by omega), hb]
        simp [hp]
      have hm0 : 0 ≤ n % 128 := by omega
      have hm1 : n % 128 < 128 := by omega
      obtain ⟨s1, s2⟩ := shl_u hm0 hm1 (show i ≤ 7 by omega)
      have hp2 : (0 : Int) < 2 ^ (7 * i) := Int.pow_pos (by omega)
      have b0 : 0 ≤ (n % 128) * 2 ^ (7 * i) := Int.mul_nonneg hm0 (by omega)
      have b1 : (n % 128) * 2 ^ (7 * i) ≤ 127 * 2 ^ (7 * i) := Int.mul_le_mul_of_nonneg_right (by omega) (by omega)
      have hdist : n * 2 ^ (7 * i) = (n % 128) * 2 ^ (7 * i) + (n / 128) * (128 * 2 ^ (7 * i)) := by
        rw [← Int.mul_assoc, ← Int.add_mul]
        congr 1; omega
      have b2 : 0 ≤ (n / 128) * (128 * 2 ^ (7 * i)) := Int.mul_nonneg (by omega) (by omega)
      have hnew : acc + (n % 128) * 2 ^ (7 * i) + (n / 128) * 2 ^ (7 * (i + 1)) = acc + n * 2 ^ (7 * i) := by
        rw [pow7, hdist]; omega
      obtain ⟨r1, r2⟩ := ih (n / 128) (acc + (n % 128) * 2 ^ (7 * i)) (i + 1) (pre ++ [n % 128 + 128]) (by rw [hb]; simp) (by simp; omega) (by omega) (by rw [pow7]; omega) (by omega) (pow_step h3) (by omega) (by rw [hnew]; exact h5)
      rw [hnew] at r1 r2
      have ha : andI .u8 (n % 128 + 128) 127 = n % 128 := by rw [and8 (by omega) (by omega)]; omega
      unfold series_unseven_l1 at r1 ⊢
      unfold Q_takeSeven_l1 at r2 ⊢
      rw [iter_eq, series_unseven_b1, if_pos (by simp only; omega), iter_eq, Q_takeSeven_b1, if_pos (by simp only; omega)]
      simp only [hx, Option.bind_some]
      rw [if_neg (by omega), if_neg (by omega), ha, u64_in hm0 (by omega), w64_in (x := n % 128) (by omega) (by omega), w64_in (x := 7 * (i : Int)) (by omega) (by omega), s1, s2]
      simp only [Option.bind_some]
      rw [if_neg (by omega), if_neg (by omega), w64_in (x := (i : Int) + 1) (by omega) (by omega), or64 h0 h1 hm0 (by omega), w64_in (x := acc + _) (by omega) (by omega)]
      simp only [Option.bind_some, after_inl]
      have e : ((i : Int) + 1) = ((i + 1 : Nat) : Int) := by omega
      rw [e]
      exact ⟨r1, r2⟩
theorem read_sv {n : Int} (rest : List Int) (h0 : 0 ≤ n) (h1 : n < 72057594037927936) : series_unseven (sv n ++ rest) = some (n, rest, true) ∧ Q_takeSeven (sv n ++ rest) = some (n, rest, true) := by
  have := read_loop (sv n ++ rest) rest 7 n 0 0 [] rfl rfl (by omega) (by simp) h0 (by simpa using h1) (by omega) (by simp; omega)
  simpa [series_unseven, Q_takeSeven] using this
theorem read_any (b : List Int) : ∃ r, series_unseven b = some r ∧ 0 ≤ r.1 := by
  unfold series_unseven series_unseven_l1
  refine iter_inv _ (fun s : Int × Int => (10 - s.2).toNat) (fun s : Int × Int => 0 ≤ s.2 ∧ s.2 ≤ 9 ∧ 0 ≤ s.1) _ ?_ _ ⟨by simp, by simp, by simp⟩
  rintro ⟨acc, i⟩ ⟨h0, h1, h2⟩
  simp only at h0 h1 h2 ⊢
  unfold series_unseven_b1
  by_cases hi : i < b.length
  · obtain ⟨x, hx, _, _⟩ := idx_lt b h0 hi
    rw [if_pos hi, hx]
    simp only [Option.bind_some]
    by_cases h9 : i = 9
    · rw [if_pos h9]; exact .inr ⟨_, rfl, by simp⟩
    · rw [if_neg h9, w64_in (x := 7 * i) (by omega) (by omega), w64_in (x := i + 1) (by omega) (by omega)]
      unfold shlO
      rw [if_neg (by omega)]
      simp only [Option.bind_some]
      split
      · rw [slc_in (by omega) (by omega) (by omega)]
        exact .inr ⟨_, rfl, or64_nonneg _ _⟩
      · exact .inl ⟨_, rfl, ⟨by simp only; omega, by simp only; omega, or64_nonneg _ _⟩, by simp only; omega⟩
  · rw [if_neg hi]; exact .inr ⟨_, rfl, by simp⟩
theorem take_any (b : List Int) : ∃ r, Q_takeSeven b = some r := by
  unfold Q_takeSeven Q_takeSeven_l1
  have h := iter_inv (fun x : Int × Int => Q_takeSeven_b1 b x.1 x.2) (fun s : Int × Int => (10 - s.2).toNat) (fun s : Int × Int => 0 ≤ s.2 ∧ s.2 ≤ 9) (fun _ => True) ?_ (0, 0) ⟨by simp, by simp⟩
  · obtain ⟨r, hr, _⟩ := h; exact ⟨r, hr⟩
  rintro ⟨acc, i⟩ ⟨h0, h1⟩
  simp only at h0 h1 ⊢
  unfold Q_takeSeven_b1
  by_cases hi : i < b.length
  · obtain ⟨x, hx, _, _⟩ := idx_lt b h0 hi
    rw [if_pos hi, hx]
    simp only [Option.bind_some]
    by_cases h9 : 7 < i
    · rw [if_pos h9]; exact .inr ⟨_, rfl, trivial⟩
    · rw [if_neg h9, w64_in (x := 7 * i) (by omega) (by omega), w64_in (x := i + 1) (by omega) (by omega)]
      unfold shlO
      rw [if_neg (by omega)]
      simp only [Option.bind_some]
      split
      · rw [slc_in (by omega) (by omega) (by omega)]
        exact .inr ⟨_, rfl, trivial⟩
      · exact .inl ⟨_, rfl, ⟨by simp only; omega, by simp only; omega⟩, by simp only; omega⟩
  · rw [if_neg hi]; exact .inr ⟨_, rfl, trivial⟩
end Go.Beacon
