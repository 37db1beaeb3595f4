/- Plain facts on what the functions compute. No program in sight. -/
import Derived.Test.YtohbdmanojgegaaDoorCelP
import Derived.Test.YtohbdmanojgegaaDoorPlBA
import Derived.Laws.Bits64
/- Plain facts of the streams that make inputs: each ends, and what it hands out is within bounds. No program in sight. -/
set_option linter.unusedVariables false
set_option linter.unusedSimpArgs false
namespace Go.Beacon
open Go Go.Eng

abbrev Stm := Fleetmake_Stream
/-- At least k more numbers can be drawn. -/
def SOk (s : Stm) (k : Int) : Prop := 0 ≤ s.at_ ∧ s.at_ + k ≤ 4611686018427387904
theorem SOk.less {s : Stm} {k k' : Int} (h : SOk s k) (hk : k' ≤ k) : SOk s k' := ⟨h.1, by have := h.2; omega⟩
def Gen {α : Type} (m : Option (α × Stm)) (k : Int) (P : α → Prop) : Prop := ∃ v s', m = some (v, s') ∧ P v ∧ SOk s' k
theorem Gen.bind {α β : Type} {m : Option (α × Stm)} {k k' : Int} {P : α → Prop} {Q : β → Prop} {f : α × Stm → Option (β × Stm)} (h : Gen m k P) (hf : ∀ v s', P v → SOk s' k → Gen (f (v, s')) k' Q) : Gen (m.bind f) k' Q := by
  obtain ⟨v, s', rfl, h1, h2⟩ := h
  exact hf v s' h1 h2
theorem Gen.ret {α : Type} {v : α} {s : Stm} {k : Int} {P : α → Prop} (h1 : P v) (h2 : SOk s k) : Gen (some (v, s)) k P := ⟨v, s, rfl, h1, h2⟩
theorem Gen.mono {α : Type} {m : Option (α × Stm)} {k k' : Int} {P Q : α → Prop} (h : Gen m k P) (hk : k' ≤ k) (hp : ∀ v, P v → Q v) : Gen m k' Q := by
  obtain ⟨v, s', e, h1, h2⟩ := h
  exact ⟨v, s', e, hp v h1, h2.less hk⟩

theorem Below_ok (x : Int) {n : Int} (h1 : 1 ≤ n) (h2 : n ≤ 4611686018427387904) : ∃ v, Below x n = some v ∧ 0 ≤ v ∧ v < n := by
  unfold Below Below_j1
  rw [if_neg (by omega), rem_ne (by omega)]
  have a1 := Int.lt_tmod_of_pos x (show 0 < n by omega)
  have a2 := Int.tmod_lt_of_pos x (show 0 < n by omega)
  simp only [Option.bind_some]
  split
  · exact ⟨_, rfl, by rw [w64_in] <;> omega, by rw [w64_in] <;> omega⟩
  · exact ⟨_, rfl, by omega, by omega⟩

theorem Next_ok {s : Stm} {n k : Int} (hs : SOk s (k + 1)) (h1 : 1 ≤ n) (h2 : n ≤ 4611686018427387904) (hk : 0 ≤ k) : Gen (Stream_Next s n) k (fun v => 0 ≤ v ∧ v < n) := by
  obtain ⟨a1, a2⟩ := hs
  have e1 : w64 (s.at_ + 1) = s.at_ + 1 := by rw [w64_in] <;> omega
  have e2 : w64 (s.at_ + 1 - 1) = s.at_ := by rw [w64_in] <;> omega
  unfold Stream_Next
  split
  · obtain ⟨v, hv, h3, h4⟩ := Below_ok (w64 (w64 (s.at_ + 1) * 7919)) h1 h2
    rw [hv]
    exact Gen.ret ⟨h3, h4⟩ ⟨by show 0 ≤ w64 (s.at_ + 1); omega, by show w64 (s.at_ + 1) + k ≤ _; omega⟩
  · rename_i hl
    have hl' : (0 : Int) < s.L.length := by omega
    rw [e1, e2, rem_pos hl' a1, quo_ne (by omega)]
    simp only [Option.bind_some]
    obtain ⟨x, hx, _, _⟩ := idx_lt s.L (i := s.at_ % s.L.length) (Int.emod_nonneg _ (by omega)) (Int.emod_lt_of_pos _ hl')
    rw [hx]
    simp only [Option.bind_some]
    obtain ⟨u, hu, _, _⟩ := Below_ok x (n := 1073741824) (by omega) (by omega)
    rw [hu]
    simp only [Option.bind_some]
    obtain ⟨v, hv, h3, h4⟩ := Below_ok (w64 (u + w64 (w64 (s.at_.tdiv s.L.length) * w64 (7919 + s.at_ % s.L.length)))) h1 h2
    rw [hv]
    exact Gen.ret ⟨h3, h4⟩ ⟨by simp only; omega, by simp only; omega⟩

theorem Pick_ok {s : Stm} {l : List Int} {k : Int} (hs : SOk s (k + 1)) (h1 : l ≠ []) (h2 : l.length ≤ 1000) (hk : 0 ≤ k) : Gen (Stream_Pick s l) k (fun v => v ∈ l) := by
  unfold Stream_Pick
  have hl : 0 < l.length := List.length_pos_iff.2 h1
  refine Gen.bind (Next_ok hs (by omega) (by omega) hk) (fun v s' hv hs' => ?_)
  obtain ⟨x, hx, hm, _⟩ := idx_lt l hv.1 hv.2
  simp only [hx, Option.bind_some]
  exact Gen.ret hm hs'
theorem Range_ok {s : Stm} {a b k : Int} (hs : SOk s (k + 1)) (hab : a ≤ b) (ha : -1152921504606846976 ≤ a) (hb : b ≤ 1152921504606846976) (hk : 0 ≤ k) : Gen (Stream_Range s a b) k (fun v => a ≤ v ∧ v ≤ b) := by
  unfold Stream_Range
  have e1 : w64 (b - a) = b - a := by rw [w64_in] <;> omega
  have e2 : w64 (b - a + 1) = b - a + 1 := by rw [w64_in] <;> omega
  rw [if_neg (by omega), e1, e2]
  refine Gen.bind (Next_ok hs (by omega) (by omega) hk) (fun v s' hv hs' => ?_)
  refine Gen.ret ?_ hs'
  simp only
  rw [w64_in] <;> omega
theorem Flip_ok {s : Stm} {n k : Int} (hs : SOk s (k + 1)) (h1 : 1 ≤ n) (h2 : n ≤ 4611686018427387904) (hk : 0 ≤ k) : Gen (Stream_Flip s n) k (fun _ => True) := by
  unfold Stream_Flip
  exact Gen.bind (Next_ok hs h1 h2 hk) (fun v s' hv hs' => Gen.ret trivial hs')
theorem pick_le {l : List Int} {v lo hi : Int} (h : v ∈ l) (hl : l.all (fun x => decide (lo ≤ x ∧ x ≤ hi)) = true) : lo ≤ v ∧ v ≤ hi := by
  rw [List.all_eq_true] at hl
  simpa using hl v h
theorem Some_ok {s : Stm} {l : List Str} {k : Int} (hs : SOk s (k + 1)) (h1 : l ≠ []) (h2 : l.length ≤ 1000) (hk : 0 ≤ k) : Gen (Stream_Some s l) k (fun v => v ∈ l) := by
  unfold Stream_Some
  have hl : 0 < l.length := List.length_pos_iff.2 h1
  refine Gen.bind (Next_ok hs (by omega) (by omega) hk) (fun v s' hv hs' => ?_)
  obtain ⟨x, hx, hm, _⟩ := idx_lt l hv.1 hv.2
  simp only [hx, Option.bind_some]
  exact Gen.ret hm hs'
theorem Odd_ok {s : Stm} {a b k : Int} (hs : SOk s (k + 2)) (hab : a ≤ b) (ha : -1099511627776 ≤ a) (hb : b ≤ 1099511627776) (hk : 0 ≤ k) : Gen (Stream_Odd s a b) k (fun v => -1099511627777 ≤ v ∧ v ≤ 1099511627777) := by
  unfold Stream_Odd
  refine Gen.bind (Flip_ok (k := k + 1) (hs.less (by omega)) (by omega) (by omega) (by omega)) (fun v s' hv hs' => ?_)
  simp only
  split
  · refine Gen.bind (Pick_ok hs' (by simp) (by simp) hk) (fun v s' hv hs' => Gen.ret ?_ hs')
    have e1 : w64 (a - 1) = a - 1 := by rw [w64_in] <;> omega
    have e2 : w64 (b + 1) = b + 1 := by rw [w64_in] <;> omega
    rw [e1, e2] at hv
    simp only [List.mem_cons, List.not_mem_nil, or_false] at hv
    simp only; omega
  · refine Gen.bind (Range_ok hs' hab (by omega) (by omega) hk) (fun v s' hv hs' => Gen.ret ?_ hs')
    simp only; omega
end Go.Beacon

/- Plain facts of keys: the program's check and the reference's. No program in sight. -/
set_option linter.unusedVariables false
set_option linter.unusedSimpArgs false
namespace Go.Beacon
open Go Go.Eng

theorem Out_eq (n lo hi : Int) : base_Out n lo hi = (decide (n < lo) || decide (hi < n)) := rfl
theorem Qin_eq (n lo hi : Int) : Q_in n lo hi = (decide (lo ≤ n) && decide (n ≤ hi)) := rfl
/-! keys -/
def okN (n : Nat) : Bool := (decide (97 ≤ n) && decide (n ≤ 122)) || (decide (48 ≤ n) && decide (n ≤ 57)) || decide (n = 45) || decide (n = 95)
def keyB : Str → Bool
  | [] => false
  | c :: r => decide ((c :: r).length ≤ 40) && (decide (97 ≤ c.toNat) && decide (c.toNat ≤ 122)) && (c :: r).all (fun c => okN c.toNat)
theorem keyB_cons (c : UInt8) (r : Str) : keyB (c :: r) = (decide ((c :: r).length ≤ 40) && (decide (97 ≤ c.toNat) && decide (c.toNat ≤ 122)) && (c :: r).all (fun c => okN c.toNat)) := rfl
theorem Key_loop (s : Str) (hl : s.length ≤ 40) : base_Key_l1 s 0 = some (s.all (fun c => okN c.toNat)) := by
  unfold base_Key_l1
  rw [iter_find s (fun x : Int => base_Key_b1 s x) (fun c => if okN c.toNat = true then none else some false) true (by omega), findE_bool]
  · intro i c h0 h1 hc
    have hB : (if (97 : Int) ≤ (c.toNat : Int) then if (c.toNat : Int) ≤ (122 : Int) then !true else if (48 : Int) ≤ (c.toNat : Int) then if (c.toNat : Int) ≤ (57 : Int) then !true else if (c.toNat : Int) = (45 : Int) then !true else decide (¬ ((c.toNat : Int) = (95 : Int))) else if (c.toNat : Int) = (45 : Int) then !true else decide (¬ ((c.toNat : Int) = (95 : Int))) else if (48 : Int) ≤ (c.toNat : Int) then if (c.toNat : Int) ≤ (57 : Int) then !true else if (c.toNat : Int) = (45 : Int) then !true else decide (¬ ((c.toNat : Int) = (95 : Int))) else if (c.toNat : Int) = (45 : Int) then !true else decide (¬ ((c.toNat : Int) = (95 : Int)))) = !okN c.toNat := by
      unfold okN
      rw [Bool.eq_iff_iff]
      repeat' split
      all_goals simp
      all_goals omega
    rw [base_Key_b1, if_pos h1, hc]
    simp only [Option.bind_some]
    rw [hB]
    unfold base_Key_j2
    rw [w64_in (by omega) (by omega)]
    cases okN c.toNat <;> rfl
  · rw [base_Key_b1, if_neg (by omega)]; rfl
theorem Key_eq (s : Str) : base_Key s = some (keyB s) := by
  unfold base_Key base_Key_j1
  cases s with
  | nil => simp [keyB]
  | cons c r =>
    rw [if_neg (by simp)]
    have hc : idx (c :: r) 0 = some c := rfl
    rw [hc]
    simp only [Option.bind_some]
    by_cases hl : (c :: r).length ≤ 40
    · rw [if_neg (by omega), Key_loop _ hl, keyB_cons]
      by_cases h1 : (c.toNat : Int) < 97
      · rw [if_pos h1]
        have : decide (97 ≤ c.toNat) = false := by simp; omega
        rw [this]; simp
      · rw [if_neg h1]
        have e1 : decide (97 ≤ c.toNat) = true := by simp; omega
        by_cases h2 : (122 : Int) < c.toNat
        · rw [if_pos (by simpa using h2)]
          have : decide (c.toNat ≤ 122) = false := by simp; omega
          rw [this]; simp
        · rw [if_neg (by simpa using h2)]
          have : decide (c.toNat ≤ 122) = true := by simp; omega
          rw [e1, this, decide_eq_true hl]; simp
    · rw [if_pos (by omega), keyB_cons, decide_eq_false hl]; simp
theorem chars_fin : ∀ n : Fin 256, decide (UInt8.ofNat n.val ∈ ([97, 98, 99, 100, 101, 102, 103, 104, 105, 106, 107, 108, 109, 110, 111, 112, 113, 114, 115, 116, 117, 118, 119, 120, 121, 122, 48, 49, 50, 51, 52, 53, 54, 55, 56, 57, 45, 95] : List UInt8)) = okN n.val := by decide +kernel
theorem low_fin : ∀ n : Fin 256, decide (UInt8.ofNat n.val ∈ ([97, 98, 99, 100, 101, 102, 103, 104, 105, 106, 107, 108, 109, 110, 111, 112, 113, 114, 115, 116, 117, 118, 119, 120, 121, 122] : List UInt8)) = (decide (97 ≤ n.val) && decide (n.val ≤ 122)) := by decide +kernel
theorem u8_fin {p : UInt8 → Bool} {q : Nat → Bool} (h : ∀ n : Fin 256, p (UInt8.ofNat n.val) = q n.val) (c : UInt8) : p c = q c.toNat := by
  have := h ⟨c.toNat, c.toNat_lt⟩
  simpa using this
theorem only_eq (s chars : Str) (hl : (s.length : Int) ≤ 4611686018427387904) : Q_only s chars = some (s.all (fun c => decide (c ∈ chars))) := by
  unfold Q_only Q_only_l1
  rw [iter_find s (fun x : Int => Q_only_b1 s chars x) (fun c => if decide (c ∈ chars) = true then none else some false) true hl, findE_bool]
  · intro i c h0 h1 hc
    rw [Q_only_b1, if_pos h1, hc]
    simp only [Option.bind_some, indexByteI, toU8]
    rw [w64_in (by omega) (by omega)]
    by_cases hm : c ∈ chars
    · rw [if_neg (fun h => (indexByte_nonneg _ _).1 h hm)]; simp [hm]
    · rw [if_pos ((indexByte_nonneg _ _).2 hm)]; simp [hm]
  · rw [Q_only_b1, if_neg (by omega)]; rfl
theorem QKey_eq (s : Str) : Q_Key s = some (keyB s) := by
  unfold Q_Key Q_Key_j1
  rw [Qin_eq]
  cases s with
  | nil => rfl
  | cons c r =>
    have hs : slc (c :: r) 0 1 = some [c] := by rw [slc_in (by omega) (by omega) (by simp; omega)]; simp
    rw [hs]
    simp only [Option.bind_some]
    by_cases hl : (c :: r).length ≤ 40
    · rw [if_pos (by simp; simp at hl; omega), only_eq _ _ (by simp)]
      simp only [Option.bind_some, List.all_cons, List.all_nil, Bool.and_true]
      rw [only_eq _ _ (by omega)]
      simp only [Option.bind_some]
      rw [u8_fin (p := fun c => decide (c ∈ ([97, 98, 99, 100, 101, 102, 103, 104, 105, 106, 107, 108, 109, 110, 111, 112, 113, 114, 115, 116, 117, 118, 119, 120, 121, 122] : List UInt8))) (q := fun n => decide (97 ≤ n) && decide (n ≤ 122)) low_fin c]
      have e : (c :: r).all (fun c => decide (c ∈ ([97, 98, 99, 100, 101, 102, 103, 104, 105, 106, 107, 108, 109, 110, 111, 112, 113, 114, 115, 116, 117, 118, 119, 120, 121, 122, 48, 49, 50, 51, 52, 53, 54, 55, 56, 57, 45, 95] : List UInt8))) = (c :: r).all (fun c => okN c.toNat) := by
        congr 1; funext c
        exact u8_fin (p := fun c => decide (c ∈ ([97, 98, 99, 100, 101, 102, 103, 104, 105, 106, 107, 108, 109, 110, 111, 112, 113, 114, 115, 116, 117, 118, 119, 120, 121, 122, 48, 49, 50, 51, 52, 53, 54, 55, 56, 57, 45, 95] : List UInt8))) chars_fin c
      rw [e, keyB_cons, decide_eq_true hl, Bool.true_and]
      split
      · rename_i h; rw [h]; simp
      · rename_i h
        rw [Bool.not_eq_true] at h
        rw [h]; simp
    · rw [if_neg (by simp; simp at hl; omega), keyB_cons, decide_eq_false hl]; rfl

theorem CompareI_eq (a b : Int) : cmp_Compare_int a b = cmpI a b := by
  unfold cmp_Compare_int cmp_isNaN_int cmpI; simp
end Go.Beacon

/- Plain facts: loops by a measure, products within bounds, quotients rounded down. No program in sight. -/
set_option linter.unusedVariables false
set_option linter.unusedSimpArgs false
namespace Go.Beacon
open Go Go.Eng

/-- A loop whose rounds keep something and make a number smaller ends; what its last round tells holds. -/
theorem iter_inv {S A : Type} (f : S → Option (S ⊕ A)) (m : S → Nat) (Inv : S → Prop) (R : A → Prop)
    (h : ∀ s, Inv s → (∃ s', f s = some (.inl s') ∧ Inv s' ∧ m s' < m s) ∨ (∃ a, f s = some (.inr a) ∧ R a)) : ∀ s, Inv s → ∃ a, iter f s = some a ∧ R a := by
  have key : ∀ (n : Nat) s, m s ≤ n → Inv s → ∃ a, iter f s = some a ∧ R a := by
    intro n
    induction n with
    | zero =>
      intro s hm hi
      rcases h s hi with ⟨s', _, _, h3⟩ | ⟨a, h1, h2⟩
      · omega
      · exact ⟨a, by rw [iter_eq, h1]; rfl, h2⟩
    | succ n ih =>
      intro s hm hi
      rcases h s hi with ⟨s', h1, h2, h3⟩ | ⟨a, h1, h2⟩
      · obtain ⟨a, h4, h5⟩ := ih s' (by omega) h2
        exact ⟨a, by rw [iter_eq, h1]; simpa using h4, h5⟩
      · exact ⟨a, by rw [iter_eq, h1]; rfl, h2⟩
  exact fun s hi => key (m s) s (Nat.le_refl _) hi
theorem mul_bd {a b A B : Int} (h1 : -A ≤ a) (h2 : a ≤ A) (h3 : -B ≤ b) (h4 : b ≤ B) : -(A * B) ≤ a * b ∧ a * b ≤ A * B := by
  have hn : (a * b).natAbs ≤ (A * B).natAbs := by
    rw [Int.natAbs_mul, Int.natAbs_mul]
    exact Nat.mul_le_mul (by omega) (by omega)
  have hp : 0 ≤ A * B := Int.mul_nonneg (by omega) (by omega)
  omega
theorem orL2 (x y : Int) : orL [x, y] = if x ≠ 0 then x else y := by
  by_cases h1 : x = 0 <;> by_cases h2 : y = 0 <;> simp [orL, h1, h2]
end Go.Beacon

/- Fences: the checks of the program and of the reference are the same; so is where a spot lies. No program in sight. -/
set_option linter.unusedVariables false
set_option linter.unusedSimpArgs false
namespace Go.Beacon
open Go Go.Eng

/-! loops that look for the first -/
def firstG {A : Type} (g : Nat → Option A) : Nat → Nat → Option A
  | _, 0 => none
  | i, m + 1 => match g i with
    | some e => some e
    | none => firstG g (i + 1) m
def orE {A : Type} (o rest : Option A) : Option A := match o with
  | some e => some e
  | none => rest
theorem iter_first {A : Type} (f : Int → Option (Int ⊕ A)) (g : Nat → Option A) (n : Nat) (rest : Option A) (lo : Nat) (hf : ∀ i : Nat, lo ≤ i → i < n → f i = some (match g i with | some e => .inr e | none => .inl ((i : Int) + 1))) (he : f n = rest.map .inr) : ∀ (m i : Nat), lo ≤ i → i + m = n → iter f i = orE (firstG g i m) rest
  | 0, i, hlo, h => by
    obtain rfl : i = n := by omega
    rw [iter_eq, he, map_inr_after]; rfl
  | m + 1, i, hlo, h => by
    rw [iter_eq, hf i hlo (by omega)]
    simp only [Option.bind_some, firstG]
    cases hg : g i with
    | some e => rfl
    | none =>
      have := iter_first f g n rest lo hf he m (i + 1) (by omega) (by omega)
      rw [after_inl]
      exact this
theorem firstG_none {A : Type} {g : Nat → Option A} : ∀ {m i : Nat}, firstG g i m = none ↔ ∀ j, i ≤ j → j < i + m → g j = none
  | 0, i => by simp only [firstG, true_iff]; intro j h1 h2; omega
  | m + 1, i => by
    simp only [firstG]
    cases hg : g i with
    | some e =>
      simp only [reduceCtorEq, false_iff]
      intro h
      have := h i (by omega) (by omega)
      rw [hg] at this; cases this
    | none =>
      simp only
      rw [firstG_none (m := m)]
      constructor
      · intro h j h1 h2
        by_cases e : j = i
        · rw [e]; exact hg
        · exact h j (by omega) (by omega)
      · intro h j h1 h2; exact h j (by omega) (by omega)
theorem firstG_some {A : Type} {g : Nat → Option A} : ∀ {m i : Nat} {e : A}, firstG g i m = some e → ∃ j, i ≤ j ∧ j < i + m ∧ g j = some e
  | 0, i, e, h => by simp [firstG] at h
  | m + 1, i, e, h => by
    simp only [firstG] at h
    cases hg : g i with
    | some e' => rw [hg] at h; exact ⟨i, by omega, by omega, by rw [hg]; exact h⟩
    | none =>
      rw [hg] at h
      obtain ⟨j, h1, h2, h3⟩ := firstG_some h
      exact ⟨j, by omega, by omega, h3⟩
/-- A loop that looks whether any element has something. -/
theorem iter_anyP {A : Type} (f : Int → Option (Int ⊕ A)) (B : Nat → Prop) (hit miss : A) (n : Nat) (i0 : Nat) (hf : ∀ i : Nat, i0 ≤ i → i < n → (B i → f i = some (.inr hit)) ∧ (¬ B i → f i = some (.inl ((i : Int) + 1)))) (he : f n = some (.inr miss)) (h0 : i0 ≤ n) : ((∃ i, i0 ≤ i ∧ i < n ∧ B i) → iter f i0 = some hit) ∧ ((¬ ∃ i, i0 ≤ i ∧ i < n ∧ B i) → iter f i0 = some miss) := by
  have key := iter_first f (fun i => open Classical in if B i then some hit else none) n (some miss) i0 (fun i hlo hi => by
    have := hf i hlo hi
    by_cases h : B i
    · rw [this.1 h]; simp [h]
    · rw [this.2 h]; simp [h]) (by rw [he]; rfl) (n - i0) i0 (by omega) (by omega)
  constructor
  · rintro ⟨i, h1, h2, h3⟩
    rw [key]
    cases hg : firstG (fun i => open Classical in if B i then some hit else none) i0 (n - i0) with
    | none =>
      have := firstG_none.1 hg i h1 (by omega)
      simp [h3] at this
    | some e =>
      obtain ⟨j, _, _, hj⟩ := firstG_some hg
      by_cases h : B j
      · simp [h] at hj; rw [hj]; rfl
      · simp [h] at hj
  · intro hn
    rw [key]
    cases hg : firstG (fun i => open Classical in if B i then some hit else none) i0 (n - i0) with
    | none => rfl
    | some e =>
      obtain ⟨j, j1, j2, hj⟩ := firstG_some hg
      by_cases h : B j
      · exact absurd ⟨j, j1, by omega, h⟩ hn
      · simp [h] at hj

/-! spots -/
def GS (s : Spot) : GP := ⟨s.X, s.Y⟩
/-- Within what a right spot may have. -/
def SBn (s : Spot) : Prop := (-10000 ≤ s.X ∧ s.X ≤ 10000) ∧ (-10000 ≤ s.Y ∧ s.Y ≤ 10000)
/-- Within the square of all cells. -/
def SB (s : Spot) : Prop := (-16384 ≤ s.X ∧ s.X ≤ 16384) ∧ (-16384 ≤ s.Y ∧ s.Y ≤ 16384)
theorem SBn.w {s : Spot} (h : SBn s) : SB s := by unfold SBn at h; unfold SB; omega
instance (a b s : GP) : Decidable (onS a b s) := by unfold onS btw; exact inferInstance
instance (x y : Int) : Decidable (opp x y) := by unfold opp; exact inferInstance
instance (a b c d : GP) : Decidable (meet a b c d) := by unfold meet; exact inferInstance
theorem isSpot_eq (s : Spot) : place_isSpot s = true ↔ SBn s := by
  unfold place_isSpot place_isSpot_j1 SBn
  simp only [Out_eq]
  simp
theorem SpotFault_eq (s : Spot) : (SBn s → Q_SpotFault s = 0) ∧ (¬ SBn s → Q_SpotFault s = 1) := by
  unfold Q_SpotFault Q_SpotFault_j1 SBn
  rw [Qin_eq, Qin_eq]
  constructor
  · rintro ⟨⟨h1, h2⟩, ⟨h3, h4⟩⟩
    simp [h1, h2, h3, h4]
  · intro h
    rw [if_pos]
    simp only [Bool.or_eq_true, Bool.not_eq_true', Bool.and_eq_false_iff, decide_eq_false_iff_not]
    omega
theorem sub_w {a b : Int} (ha : -16384 ≤ a ∧ a ≤ 16384) (hb : -16384 ≤ b ∧ b ≤ 16384) : w64 (a - b) = a - b := by rw [w64_in] <;> omega
theorem sd_bd {a b s : Spot} (ha : SB a) (hb : SB b) (hs : SB s) : -2147483648 ≤ sd (GS a) (GS b) (GS s) ∧ sd (GS a) (GS b) (GS s) ≤ 2147483648 := by
  unfold SB at ha hb hs
  have m1 := mul_bd (a := b.X - a.X) (b := s.Y - a.Y) (A := 32768) (B := 32768) (by omega) (by omega) (by omega) (by omega)
  have m2 := mul_bd (a := b.Y - a.Y) (b := s.X - a.X) (A := 32768) (B := 32768) (by omega) (by omega) (by omega) (by omega)
  unfold sd GS
  simp only
  omega
theorem side_eq {a b s : Spot} (ha : SB a) (hb : SB b) (hs : SB s) : place_side a b s = sd (GS a) (GS b) (GS s) := by
  have hd := sd_bd ha hb hs
  unfold SB at ha hb hs
  have m1 := mul_bd (a := b.X - a.X) (b := s.Y - a.Y) (A := 32768) (B := 32768) (by omega) (by omega) (by omega) (by omega)
  have m2 := mul_bd (a := b.Y - a.Y) (b := s.X - a.X) (A := 32768) (B := 32768) (by omega) (by omega) (by omega) (by omega)
  unfold place_side
  rw [sub_w hb.1 ha.1, sub_w hs.2 ha.2, sub_w hb.2 ha.2, sub_w hs.1 ha.1, w64_in (x := (b.X - a.X) * (s.Y - a.Y)) (by omega) (by omega), w64_in (x := (b.Y - a.Y) * (s.X - a.X)) (by omega) (by omega), w64_in (by omega) (by omega)]
  rfl
theorem cross_eq {a b s : Spot} (ha : SB a) (hb : SB b) (hs : SB s) : Q_cross (Q_minus b a) (Q_minus s a) = sd (GS a) (GS b) (GS s) := by
  have hd := sd_bd ha hb hs
  unfold SB at ha hb hs
  have m1 := mul_bd (a := b.X - a.X) (b := s.Y - a.Y) (A := 32768) (B := 32768) (by omega) (by omega) (by omega) (by omega)
  have m2 := mul_bd (a := b.Y - a.Y) (b := s.X - a.X) (A := 32768) (B := 32768) (by omega) (by omega) (by omega) (by omega)
  unfold Q_cross Q_minus
  simp only
  rw [sub_w hb.1 ha.1, sub_w hs.2 ha.2, sub_w hb.2 ha.2, sub_w hs.1 ha.1, w64_in (x := (b.X - a.X) * (s.Y - a.Y)) (by omega) (by omega), w64_in (x := (b.Y - a.Y) * (s.X - a.X)) (by omega) (by omega), w64_in (by omega) (by omega)]
  rfl
theorem sign_s (x : Int) : (Q_sign x = 0 ↔ x = 0) ∧ (Q_sign x < 0 ↔ x < 0) ∧ (0 < Q_sign x ↔ 0 < x) := by
  unfold Q_sign
  repeat' split
  all_goals omega
theorem Qside_s {a b s : Spot} (ha : SB a) (hb : SB b) (hs : SB s) : (Q_side a b s = 0 ↔ sd (GS a) (GS b) (GS s) = 0) ∧ (Q_side a b s < 0 ↔ sd (GS a) (GS b) (GS s) < 0) ∧ (0 < Q_side a b s ↔ 0 < sd (GS a) (GS b) (GS s)) := by
  unfold Q_side
  rw [cross_eq ha hb hs]
  exact sign_s _
theorem on_eq {a b s : Spot} (ha : SB a) (hb : SB b) (hs : SB s) : place_on a b s = decide (onS (GS a) (GS b) (GS s)) := by
  unfold place_on place_on_j1
  rw [side_eq ha hb hs, Bool.eq_iff_iff]
  simp only [Bool.and_eq_true, decide_eq_true_eq]
  unfold onS btw
  show _ ↔ _ ∧ ((a.X ≤ s.X ∧ s.X ≤ b.X) ∨ (b.X ≤ s.X ∧ s.X ≤ a.X)) ∧ ((a.Y ≤ s.Y ∧ s.Y ≤ b.Y) ∨ (b.Y ≤ s.Y ∧ s.Y ≤ a.Y))
  constructor
  · rintro ⟨h0, h1, h2, h3, h4⟩
    exact ⟨h0, by omega, by omega⟩
  · rintro ⟨h0, h1, h2⟩
    exact ⟨h0, by omega, by omega, by omega, by omega⟩
theorem dot_on {a b s : GP} (h0 : sd a b s = 0) : (a.x - s.x) * (b.x - s.x) + (a.y - s.y) * (b.y - s.y) ≤ 0 ↔ btw a.x b.x s.x ∧ btw a.y b.y s.y := by
  have e : (a.x - s.x) * (b.y - s.y) = (a.y - s.y) * (b.x - s.x) := by unfold sd at h0; grind
  generalize hu : a.x - s.x = u at *
  generalize hv : b.x - s.x = v at *
  generalize hp : a.y - s.y = p at *
  generalize hq : b.y - s.y = q at *
  have bx : btw a.x b.x s.x ↔ ¬ ((0 < u ∧ 0 < v) ∨ (u < 0 ∧ v < 0)) := by unfold btw; omega
  have by_ : btw a.y b.y s.y ↔ ¬ ((0 < p ∧ 0 < q) ∨ (p < 0 ∧ q < 0)) := by unfold btw; omega
  rw [bx, by_]
  have sq : (u * v) * (p * q) = (u * q) * (u * q) := by
    have : (u * v) * (p * q) = (u * q) * (p * v) := by grind
    rw [this, ← e]
  have sq0 : 0 ≤ (u * q) * (u * q) := by
    rcases Int.le_total 0 (u * q) with h | h
    · exact Int.mul_nonneg h h
    · have := Int.mul_nonneg (show 0 ≤ -(u * q) by omega) (show 0 ≤ -(u * q) by omega)
      rw [Int.neg_mul_neg] at this; exact this
  have pp : ∀ {x y : Int}, (0 < x ∧ 0 < y) ∨ (x < 0 ∧ y < 0) → 0 < x * y := by
    rintro x y (⟨h1, h2⟩ | ⟨h1, h2⟩)
    · exact Int.mul_pos h1 h2
    · have := Int.mul_pos (show 0 < -x by omega) (show 0 < -y by omega)
      rw [Int.neg_mul_neg] at this; exact this
  have np : ∀ {x y : Int}, ¬ ((0 < x ∧ 0 < y) ∨ (x < 0 ∧ y < 0)) → x * y ≤ 0 := by
    intro x y h
    rcases Int.le_total 0 x with k | k
    · by_cases z : x = 0
      · subst z; simp
      · have := Int.mul_nonneg k (show 0 ≤ -y by omega)
        rw [Int.mul_neg] at this; omega
    · by_cases z : x = 0
      · subst z; simp
      · have := Int.mul_nonneg (show 0 ≤ -x by omega) (show 0 ≤ y by omega)
        rw [Int.neg_mul] at this; omega
  constructor
  · intro h
    constructor
    · intro k
      have k1 := pp k
      have k2 : p * q < 0 := by omega
      have := Int.mul_neg_of_pos_of_neg k1 k2
      omega
    · intro k
      have k1 := pp k
      have k2 : u * v < 0 := by omega
      have := Int.mul_neg_of_neg_of_pos k2 k1
      omega
  · rintro ⟨h1, h2⟩
    have := np h1
    have := np h2
    omega
theorem dot_bd {u v p q : Int} (h1 : -32768 ≤ u ∧ u ≤ 32768) (h2 : -32768 ≤ v ∧ v ≤ 32768) (h3 : -32768 ≤ p ∧ p ≤ 32768) (h4 : -32768 ≤ q ∧ q ≤ 32768) : w64 (w64 (u * v) + w64 (p * q)) = u * v + p * q ∧ -2147483648 ≤ u * v + p * q ∧ u * v + p * q ≤ 2147483648 := by
  have m1 := mul_bd (a := u) (b := v) (A := 32768) (B := 32768) (by omega) (by omega) (by omega) (by omega)
  have m2 := mul_bd (a := p) (b := q) (A := 32768) (B := 32768) (by omega) (by omega) (by omega) (by omega)
  refine ⟨?_, by omega, by omega⟩
  rw [w64_in (x := u * v) (by omega) (by omega), w64_in (x := p * q) (by omega) (by omega), w64_in (by omega) (by omega)]
theorem dot_eq {a b c d : Spot} (ha : SB a) (hb : SB b) (hc : SB c) (hd : SB d) : Q_dot (Q_minus a b) (Q_minus c d) = (a.X - b.X) * (c.X - d.X) + (a.Y - b.Y) * (c.Y - d.Y) := by
  unfold SB at ha hb hc hd
  unfold Q_dot Q_minus
  simp only
  rw [sub_w ha.1 hb.1, sub_w hc.1 hd.1, sub_w ha.2 hb.2, sub_w hc.2 hd.2]
  exact (dot_bd (by omega) (by omega) (by omega) (by omega)).1
theorem onWay_eq {a b s : Spot} (ha : SB a) (hb : SB b) (hs : SB s) : Q_onWay a b s = decide (onS (GS a) (GS b) (GS s)) := by
  unfold Q_onWay Q_onWay_j1
  rw [dot_eq ha hs hb hs, Bool.eq_iff_iff]
  simp only [Bool.and_eq_true, decide_eq_true_eq]
  rw [(Qside_s ha hb hs).1]
  unfold onS
  constructor
  · rintro ⟨h0, h1⟩; exact ⟨h0, (dot_on h0).1 h1⟩
  · rintro ⟨h0, h1⟩; exact ⟨h0, (dot_on h0).2 h1⟩
theorem sgn_opp {x y : Int} (hx : x = -1 ∨ x = 0 ∨ x = 1) (hy : y = -1 ∨ y = 0 ∨ y = 1) : w64 (x * y) < 0 ↔ opp x y := by
  unfold opp
  rcases hx with rfl | rfl | rfl <;> rcases hy with rfl | rfl | rfl <;> decide
theorem sign_v (x : Int) : Q_sign x = -1 ∨ Q_sign x = 0 ∨ Q_sign x = 1 := by
  unfold Q_sign
  repeat' split
  all_goals omega
theorem cmpI_v (x y : Int) : cmpI x y = -1 ∨ cmpI x y = 0 ∨ cmpI x y = 1 := by
  unfold cmpI
  repeat' split
  all_goals omega
theorem opp_sign (x y : Int) : opp (Q_sign x) (Q_sign y) ↔ opp x y := by
  have h1 := sign_s x; have h2 := sign_s y
  unfold opp; omega
theorem opp_cmp (x y : Int) : opp (cmpI x 0) (cmpI y 0) ↔ opp x y := by
  have h1 : (cmpI x 0 < 0 ↔ x < 0) ∧ (0 < cmpI x 0 ↔ 0 < x) := by
    unfold cmpI
    repeat' split
    all_goals omega
  have h2 : (cmpI y 0 < 0 ↔ y < 0) ∧ (0 < cmpI y 0 ↔ 0 < y) := by
    unfold cmpI
    repeat' split
    all_goals omega
  unfold opp; omega
theorem meets_eq {a b c d : Spot} (ha : SB a) (hb : SB b) (hc : SB c) (hd : SB d) : place_meets a b c d = decide (meet (GS a) (GS b) (GS c) (GS d)) := by
  unfold place_meets place_meets_j1 place_meets_j2
  rw [on_eq ha hb hc, on_eq ha hb hd, on_eq hc hd ha, on_eq hc hd hb, side_eq ha hb hc, side_eq ha hb hd, side_eq hc hd ha, side_eq hc hd hb, Bool.eq_iff_iff]
  simp only [CompareI_eq, Bool.or_eq_true, decide_eq_true_eq]
  unfold meet
  split
  · rename_i h
    simp only [true_iff]
    rcases h with h | h | h | h <;> simp [h]
  · rename_i h
    simp only [Bool.and_eq_true, decide_eq_true_eq]
    rw [sgn_opp (cmpI_v _ _) (cmpI_v _ _), sgn_opp (cmpI_v _ _) (cmpI_v _ _), opp_cmp, opp_cmp]
    simp only [not_or] at h
    simp [h]
theorem touches_eq {a b c d : Spot} (ha : SB a) (hb : SB b) (hc : SB c) (hd : SB d) : Q_touches a b c d = decide (meet (GS a) (GS b) (GS c) (GS d)) := by
  unfold Q_touches Q_touches_j1 Q_touches_j2
  rw [onWay_eq ha hb hc, onWay_eq ha hb hd, onWay_eq hc hd ha, onWay_eq hc hd hb, Bool.eq_iff_iff]
  simp only [Bool.or_eq_true, decide_eq_true_eq]
  unfold meet
  split
  · rename_i h
    simp only [true_iff]
    rcases h with h | h | h | h <;> simp [h]
  · rename_i h
    simp only [Bool.and_eq_true, decide_eq_true_eq]
    unfold Q_side
    rw [cross_eq ha hb hc, cross_eq ha hb hd, cross_eq hc hd ha, cross_eq hc hd hb]
    rw [sgn_opp (sign_v _) (sign_v _), sgn_opp (sign_v _) (sign_v _), opp_sign, opp_sign]
    simp only [not_or] at h
    simp [h]

/-! corners -/
/-- The corners of a fence, going round and round. -/
def pl (l : List Spot) (j : Nat) : GP := match l[j % l.length]? with
  | some s => GS s
  | none => ⟨0, 0⟩
theorem pl_at {l : List Spot} {i : Nat} (h : i < l.length) : GS l[i] = pl l i := by
  unfold pl; rw [Nat.mod_eq_of_lt h]; simp [h]
theorem pl_mod (l : List Spot) (j : Nat) : pl l (j % l.length) = pl l j := by unfold pl; rw [Nat.mod_mod]
theorem pl_mod1 (l : List Spot) (j : Nat) : pl l (j % l.length + 1) = pl l (j + 1) := by unfold pl; rw [Nat.mod_add_mod]
theorem pl_per (l : List Spot) (j : Nat) : pl l (j + l.length) = pl l j := by unfold pl; rw [Nat.add_mod_right]
/-- The ends of an edge. -/
theorem edge_at (l : List Spot) {i : Nat} (h : i < l.length) (hl : l.length ≤ 100000) : ∃ a b : Spot, idx l (i : Int) = some a ∧ rem (w64 ((i : Int) + 1)) (l.length : Int) = some (((i + 1) % l.length : Nat) : Int) ∧ idx l (((i + 1) % l.length : Nat) : Int) = some b ∧ GS a = pl l i ∧ GS b = pl l (i + 1) ∧ a ∈ l ∧ b ∈ l := by
  have hm : (i + 1) % l.length < l.length := Nat.mod_lt _ (by omega)
  refine ⟨l[i], l[(i + 1) % l.length], ?_, ?_, ?_, pl_at h, ?_, List.getElem_mem h, List.getElem_mem hm⟩
  · unfold idx; rw [if_pos (by omega)]; simp [h]
  · rw [w64_in (by omega) (by omega), rem_pos (by omega) (by omega)]
    simp
  · unfold idx; rw [if_pos (by omega), Int.toNat_natCast]; simp [hm]
  · rw [pl_at hm, pl_mod]
theorem Qedge_at (l : List Spot) {i : Nat} (h : i < l.length) (hl : l.length ≤ 100000) : ∃ a b : Spot, Q_edge l (i : Int) = some (a, b) ∧ GS a = pl l i ∧ GS b = pl l (i + 1) ∧ a ∈ l ∧ b ∈ l := by
  obtain ⟨a, b, h1, h2, h3, h4⟩ := edge_at l h hl
  refine ⟨a, b, ?_, h4⟩
  unfold Q_edge
  rw [h1, h2]
  simp only [Option.bind_some]
  rw [h3]; rfl
theorem GS_inj {a b : Spot} : a = b ↔ GS a = GS b := by
  constructor
  · rintro rfl; rfl
  · intro h
    have h1 := congrArg GP.x h
    have h2 := congrArg GP.y h
    cases a; cases b
    simp only [GS] at h1 h2
    rw [h1, h2]
/-- Corners that are all different. -/
def Dist (l : List Spot) : Prop := ∀ i j, i < l.length → j < l.length → pl l i = pl l j → i = j
def badQ (l : List Spot) (i k : Nat) : Prop := (pl l (i + 1) = pl l k ∧ (onS (pl l i) (pl l (i + 1)) (pl l (k + 1)) ∨ onS (pl l k) (pl l (k + 1)) (pl l i))) ∨ (pl l (i + 1) ≠ pl l k ∧ pl l (k + 1) ≠ pl l i ∧ meet (pl l i) (pl l (i + 1)) (pl l k) (pl l (k + 1)))
def badP (l : List Spot) (i k : Nat) : Prop := (k = i + 1 ∧ (onS (pl l i) (pl l (i + 1)) (pl l (k + 1)) ∨ onS (pl l k) (pl l (k + 1)) (pl l i))) ∨ ((k + 1) % l.length = i ∧ (onS (pl l i) (pl l (i + 1)) (pl l k) ∨ onS (pl l k) (pl l (k + 1)) (pl l (i + 1)))) ∨ (k ≠ i + 1 ∧ (k + 1) % l.length ≠ i ∧ meet (pl l i) (pl l (i + 1)) (pl l k) (pl l (k + 1)))
theorem Dist.iff {l : List Spot} (h : Dist l) (hn : 0 < l.length) (a b : Nat) : pl l a = pl l b ↔ a % l.length = b % l.length := by
  constructor
  · intro e
    refine h _ _ (Nat.mod_lt _ hn) (Nat.mod_lt _ hn) ?_
    rw [pl_mod, pl_mod]; exact e
  · intro e
    rw [← pl_mod l a, ← pl_mod l b, e]
theorem mod_succ {n i : Nat} (h : i < n) : (i + 1 = n ∧ (i + 1) % n = 0) ∨ (i + 1 < n ∧ (i + 1) % n = i + 1) := by
  by_cases e : i + 1 = n
  · left; exact ⟨e, by rw [e, Nat.mod_self]⟩
  · right; exact ⟨by omega, Nat.mod_eq_of_lt (by omega)⟩
theorem bad_same {l : List Spot} (hd : Dist l) (hn : 3 ≤ l.length) : (∃ i, 0 ≤ i ∧ i < l.length ∧ ∃ k, i + 1 ≤ k ∧ k < l.length ∧ badP l i k) ↔ (∃ i, 0 ≤ i ∧ i < l.length ∧ ∃ k, 0 ≤ k ∧ k < l.length ∧ k ≠ i ∧ badQ l i k) := by
  have hi : ∀ a b : Nat, pl l a = pl l b ↔ a % l.length = b % l.length := hd.iff (by omega)
  have hm : ∀ {a : Nat}, a < l.length → a % l.length = a := fun h => Nat.mod_eq_of_lt h
  constructor
  · rintro ⟨i, _, i1, k, k0, k1, h⟩
    have mi := mod_succ i1
    have mk := mod_succ k1
    rcases h with ⟨h1, h2⟩ | ⟨h1, h2⟩ | ⟨h1, h2, h3⟩
    · exact ⟨i, by omega, i1, k, by omega, k1, by omega, .inl ⟨by rw [h1], h2⟩⟩
    · refine ⟨k, by omega, k1, i, by omega, i1, by omega, .inl ⟨?_, h2.symm⟩⟩
      rw [hi, hm i1]; exact h1
    · refine ⟨i, by omega, i1, k, by omega, k1, by omega, .inr ⟨?_, ?_, h3⟩⟩
      · intro e; rw [hi, hm k1] at e; omega
      · intro e; rw [hi, hm i1] at e; omega
  · rintro ⟨i, _, i1, k, k0, k1, hne, h⟩
    have mi := mod_succ i1
    have mk := mod_succ k1
    by_cases hlt : i < k
    · refine ⟨i, by omega, i1, k, by omega, k1, ?_⟩
      rcases h with ⟨h1, h2⟩ | ⟨h1, h2, h3⟩
      · rw [hi, hm k1] at h1
        exact .inl ⟨by omega, h2⟩
      · rw [Ne, hi, hm k1] at h1
        rw [Ne, hi, hm i1] at h2
        exact .inr (.inr ⟨by omega, by omega, h3⟩)
    · refine ⟨k, by omega, k1, i, by omega, i1, ?_⟩
      rcases h with ⟨h1, h2⟩ | ⟨h1, h2, h3⟩
      · rw [hi, hm k1] at h1
        exact .inr (.inl ⟨h1, h2.symm⟩)
      · rw [Ne, hi, hm k1] at h1
        rw [Ne, hi, hm i1] at h2
        exact .inr (.inr ⟨by omega, by omega, meet_comm.1 h3⟩)
theorem crossed_round {l : List Spot} (hs : ∀ x ∈ l, SB x) (hn : 3 ≤ l.length) (hl : l.length ≤ 200) {i k : Nat} (hi : i < l.length) (hk : k < l.length) {a b : Spot} (a4 : GS a = pl l i) (a5 : GS b = pl l (i + 1)) (a6 : a ∈ l) (a7 : b ∈ l) : (badP l i k → place_crossed_b2 l i a b (k : Int) = some (.inr (.inr true))) ∧ (¬ badP l i k → place_crossed_b2 l i a b (k : Int) = some (.inl ((k : Int) + 1))) := by
  obtain ⟨c, d, c1, c2, c3, c4, c5, c6, c7⟩ := edge_at l hk (by omega)
  rw [place_crossed_b2, if_pos (by omega), c1]
  simp only [Option.bind_some]
  rw [c2]
  simp only [Option.bind_some]
  rw [c3]
  simp only [Option.bind_some]
  unfold place_crossed_j1 place_crossed_j2 place_crossed_j3
  rw [meets_eq (hs a a6) (hs b a7) (hs c c6) (hs d c7), on_eq (hs a a6) (hs b a7) (hs d c7), on_eq (hs c c6) (hs d c7) (hs a a6), on_eq (hs a a6) (hs b a7) (hs c c6), on_eq (hs c c6) (hs d c7) (hs b a7), a4, a5, c4, c5, w64_in (x := (i : Int) + 1) (by omega) (by omega), w64_in (x := (k : Int) + 1) (by omega) (by omega)]
  have ek : ((k : Int) = (i : Int) + 1) ↔ k = i + 1 := by omega
  have em : ((((k + 1) % l.length : Nat) : Int) = (i : Int)) ↔ (k + 1) % l.length = i := by omega
  have hb : badP l i k ↔ ((decide (k = i + 1) && (decide (onS (pl l i) (pl l (i + 1)) (pl l (k + 1))) || decide (onS (pl l k) (pl l (k + 1)) (pl l i)))) || ((decide ((k + 1) % l.length = i) && (decide (onS (pl l i) (pl l (i + 1)) (pl l k)) || decide (onS (pl l k) (pl l (k + 1)) (pl l (i + 1))))) || (!decide (k = i + 1) && (!decide ((k + 1) % l.length = i) && decide (meet (pl l i) (pl l (i + 1)) (pl l k) (pl l (k + 1))))))) = true := by
    unfold badP
    simp only [Bool.or_eq_true, Bool.and_eq_true, decide_eq_true_eq, Bool.not_eq_true', decide_eq_false_iff_not, ne_eq]
  rw [hb]
  simp only [ek, em, decide_not]
  generalize decide (k = i + 1) = A
  generalize decide ((k + 1) % l.length = i) = B
  generalize decide (meet (pl l i) (pl l (i + 1)) (pl l k) (pl l (k + 1))) = M
  generalize (decide (onS (pl l i) (pl l (i + 1)) (pl l (k + 1))) || decide (onS (pl l k) (pl l (k + 1)) (pl l i))) = X
  generalize (decide (onS (pl l i) (pl l (i + 1)) (pl l k)) || decide (onS (pl l k) (pl l (k + 1)) (pl l (i + 1)))) = Y
  cases A <;> cases B <;> cases M <;> cases X <;> cases Y <;> simp
theorem crossed_eq {l : List Spot} (hs : ∀ x ∈ l, SB x) (hn : 3 ≤ l.length) (hl : l.length ≤ 200) : ((∃ i, 0 ≤ i ∧ i < l.length ∧ ∃ k, i + 1 ≤ k ∧ k < l.length ∧ badP l i k) → place_crossed l = some true) ∧ ((¬ ∃ i, 0 ≤ i ∧ i < l.length ∧ ∃ k, i + 1 ≤ k ∧ k < l.length ∧ badP l i k) → place_crossed l = some false) := by
  unfold place_crossed place_crossed_l1
  refine iter_anyP (fun x : Int => place_crossed_b1 l x) (fun i => ∃ k, i + 1 ≤ k ∧ k < l.length ∧ badP l i k) true false l.length 0 (fun i _ hi => ?_) ?_ (by omega)
  · obtain ⟨a, b, a1, a2, a3, a4, a5, a6, a7⟩ := edge_at l hi (by omega)
    have e : place_crossed_b1 l (i : Int) = iter (fun x : Int => place_crossed_b2 l i a b x) ((i + 1 : Nat) : Int) := by
      rw [place_crossed_b1, if_pos (by omega), a1]
      simp only [Option.bind_some]
      rw [a2]
      simp only [Option.bind_some]
      rw [a3]
      simp only [Option.bind_some]
      rw [w64_in (by omega) (by omega)]
      rfl
    show (_ → place_crossed_b1 l (i : Int) = _) ∧ (_ → place_crossed_b1 l (i : Int) = _)
    rw [e]
    refine iter_anyP (fun x : Int => place_crossed_b2 l i a b x) (fun k => badP l i k) (Sum.inr true) (Sum.inl ((i : Int) + 1)) l.length (i + 1) (fun k _ hk => crossed_round hs hn hl hi hk a4 a5 a6 a7) ?_ (by omega)
    show place_crossed_b2 l i a b ((l.length : Nat) : Int) = _
    rw [place_crossed_b2, if_neg (by omega), w64_in (by omega) (by omega)]; rfl
  · show place_crossed_b1 l ((l.length : Nat) : Int) = _
    rw [place_crossed_b1, if_neg (by omega)]; rfl
theorem Qround {l : List Spot} (hs : ∀ x ∈ l, SB x) (hl : l.length ≤ 200) {i k : Nat} (hi : i < l.length) (hk : k < l.length) {a b : Spot} (a4 : GS a = pl l i) (a5 : GS b = pl l (i + 1)) (a6 : a ∈ l) (a7 : b ∈ l) : (k ≠ i ∧ badQ l i k → Q_CornersFault_b3 l i (a, b) (k : Int) = some (.inr (.inr 13))) ∧ (¬ (k ≠ i ∧ badQ l i k) → Q_CornersFault_b3 l i (a, b) (k : Int) = some (.inl ((k : Int) + 1))) := by
  obtain ⟨c, d, c1, c4, c5, c6, c7⟩ := Qedge_at l hk (by omega)
  rw [Q_CornersFault_b3, if_pos (by omega), c1]
  simp only [Option.bind_some]
  unfold Q_CornersFault_j3 Q_CornersFault_j4 Q_CornersFault_j2 Q_CornersFault_j1
  rw [touches_eq (hs a a6) (hs b a7) (hs c c6) (hs d c7), onWay_eq (hs a a6) (hs b a7) (hs d c7), onWay_eq (hs c c6) (hs d c7) (hs a a6), w64_in (x := (k : Int) + 1) (by omega) (by omega)]
  have e1 : b = c ↔ pl l (i + 1) = pl l k := by rw [GS_inj, a5, c4]
  have e2 : d = a ↔ pl l (k + 1) = pl l i := by rw [GS_inj, c5, a4]
  have e3 : (k : Int) = (i : Int) ↔ k = i := by omega
  simp only [e1, e2, e3, a4, a5, c4, c5]
  unfold badQ
  by_cases k1 : k = i
  · simp [k1]
  · by_cases k2 : pl l (i + 1) = pl l k
    · simp only [k1, k2, if_true, if_false, ne_eq, not_false_eq_true, not_true_eq_false, true_and, false_and, or_false]
      constructor
      · intro h
        rw [if_pos (by simpa using h)]; rfl
      · intro h
        rw [if_neg (by simpa using h)]
    · by_cases k3 : pl l (k + 1) = pl l i
      · simp [k1, k2, k3]
      · simp only [k1, k2, k3, if_false, ne_eq, not_false_eq_true, true_and, false_and, false_or, decide_eq_true_eq]
        constructor
        · intro h; rw [if_pos h]; rfl
        · intro h; rw [if_neg h]
theorem Corners_l2_eq {l : List Spot} (hs : ∀ x ∈ l, SB x) (hl : l.length ≤ 200) : ((∃ i, 0 ≤ i ∧ i < l.length ∧ ∃ k, 0 ≤ k ∧ k < l.length ∧ k ≠ i ∧ badQ l i k) → Q_CornersFault_l2 l 0 = some 13) ∧ ((¬ ∃ i, 0 ≤ i ∧ i < l.length ∧ ∃ k, 0 ≤ k ∧ k < l.length ∧ k ≠ i ∧ badQ l i k) → Q_CornersFault_l2 l 0 = some 0) := by
  unfold Q_CornersFault_l2
  refine iter_anyP (fun x : Int => Q_CornersFault_b2 l x) (fun i => ∃ k, 0 ≤ k ∧ k < l.length ∧ k ≠ i ∧ badQ l i k) 13 0 l.length 0 (fun i _ hi => ?_) ?_ (by omega)
  · obtain ⟨a, b, a1, a4, a5, a6, a7⟩ := Qedge_at l hi (by omega)
    have e : Q_CornersFault_b2 l (i : Int) = iter (fun x : Int => Q_CornersFault_b3 l i (a, b) x) ((0 : Nat) : Int) := by
      rw [Q_CornersFault_b2, if_pos (by omega), a1]; rfl
    show (_ → Q_CornersFault_b2 l (i : Int) = _) ∧ (_ → Q_CornersFault_b2 l (i : Int) = _)
    rw [e]
    refine iter_anyP (fun x : Int => Q_CornersFault_b3 l i (a, b) x) (fun k => k ≠ i ∧ badQ l i k) (Sum.inr 13) (Sum.inl ((i : Int) + 1)) l.length 0 (fun k _ hk => Qround hs hl hi hk a4 a5 a6 a7) ?_ (by omega)
    show Q_CornersFault_b3 l i (a, b) ((l.length : Nat) : Int) = _
    rw [Q_CornersFault_b3, if_neg (by omega), w64_in (by omega) (by omega)]; rfl
  · show Q_CornersFault_b2 l ((l.length : Nat) : Int) = _
    rw [Q_CornersFault_b2, if_neg (by omega)]; rfl
/-- A fence without a fault does not meet itself. -/
theorem simple_of {l : List Spot} (hd : Dist l) (hn : 3 ≤ l.length) (h : ¬ ∃ i, 0 ≤ i ∧ i < l.length ∧ ∃ k, 0 ≤ k ∧ k < l.length ∧ k ≠ i ∧ badQ l i k) : Simple (pl l) (l.length - 3) := by
  have hi : ∀ a b : Nat, pl l a = pl l b ↔ a % l.length = b % l.length := hd.iff (by omega)
  have nq : ∀ a b : Nat, a % l.length ≠ b % l.length → ¬ badQ l a b := by
    intro a b hab hq
    refine h ⟨a % l.length, by omega, Nat.mod_lt _ (by omega), b % l.length, by omega, Nat.mod_lt _ (by omega), fun e => hab e.symm, ?_⟩
    unfold badQ at hq ⊢
    rw [pl_mod, pl_mod, pl_mod1, pl_mod1]
    exact hq
  have md : ∀ a j : Nat, 0 < j → j < l.length → a % l.length ≠ (a + j) % l.length := by
    intro a j j0 j1 e
    have h1 : (a + j) % l.length = (a % l.length + j) % l.length := by rw [Nat.mod_add_mod]
    rw [h1] at e
    have h2 := Nat.mod_lt a (show 0 < l.length by omega)
    generalize a % l.length = r at *
    by_cases hr : r + j < l.length
    · rw [Nat.mod_eq_of_lt hr] at e; omega
    · rw [Nat.mod_eq_sub_mod (by omega), Nat.mod_eq_of_lt (by omega)] at e; omega
  have en : l.length - 3 + 3 = l.length := by omega
  refine ⟨fun k => by rw [en]; exact pl_per l k, fun k e => md k 1 (by omega) (by omega) ((hi k (k + 1)).1 e), fun k e => ?_, fun k e => ?_, fun k j hj e => ?_⟩
  · exact nq k (k + 1) (md k 1 (by omega) (by omega)) (.inl ⟨rfl, .inl e⟩)
  · exact nq k (k + 1) (md k 1 (by omega) (by omega)) (.inl ⟨rfl, .inr e⟩)
  · refine nq k (k + 2 + j) (by rw [show k + 2 + j = k + (2 + j) by omega]; exact md k (2 + j) (by omega) (by omega)) (.inr ⟨?_, ?_, ?_⟩)
    · rw [Ne, hi, show k + 2 + j = k + 1 + (1 + j) by omega]; exact md (k + 1) (1 + j) (by omega) (by omega)
    · rw [Ne, hi, show k + 2 + j + 1 = k + (3 + j) by omega]
      exact fun e => md k (3 + j) (by omega) (by omega) e.symm
    · rw [show k + 2 + j + 1 = k + 3 + j by omega]
      exact meet_comm.1 e
end Go.Beacon

/- Fences: CheckFence is FenceFault, where is WhereOf. No program in sight. -/
set_option linter.unusedVariables false
set_option linter.unusedSimpArgs false
namespace Go.Beacon
open Go Go.Eng

theorem Contains_eq (l : List Spot) (v : Spot) (hl : l.length ≤ 100000) : slices_Contains_Spot_Spot l v = some (decide (v ∈ l)) := by
  have key := iter_first (fun x : Int => slices_Index_Spot_Spot_b1 l v x) (fun i => if l[i]? = some v then some (i : Int) else none) l.length (some (-1)) 0 (fun i _ hi => by
    obtain ⟨x, hx⟩ : ∃ x, l[i]? = some x := ⟨l[i], by simp [hi]⟩
    have hi' : idx l (i : Int) = some x := by unfold idx; rw [if_pos (by omega), Int.toNat_natCast]; exact hx
    show slices_Index_Spot_Spot_b1 l v (i : Int) = _
    rw [slices_Index_Spot_Spot_b1, if_pos (by omega), hi', w64_in (by omega) (by omega)]
    simp only [Option.bind_some, hx, Option.some.injEq]
    by_cases h : v = x
    · simp [h]
    · have : ¬ x = v := fun e => h e.symm
      simp [h, this]) (by
    show slices_Index_Spot_Spot_b1 l v ((l.length : Nat) : Int) = _
    rw [slices_Index_Spot_Spot_b1, if_neg (by omega)]) l.length 0 (by omega) (by omega)
  unfold slices_Contains_Spot_Spot slices_Index_Spot_Spot slices_Index_Spot_Spot_l1
  rw [show (0 : Int) = ((0 : Nat) : Int) from rfl, key]
  cases hg : firstG (fun i => if l[i]? = some v then some (i : Int) else none) 0 l.length with
  | none =>
    have : v ∉ l := by
      intro hm
      obtain ⟨i, hi, he⟩ := List.getElem_of_mem hm
      have := firstG_none.1 hg i (by omega) (by omega)
      simp [hi, he] at this
    simp [this, orE]
  | some e =>
    obtain ⟨j, _, j2, hj⟩ := firstG_some hg
    by_cases h : l[j]? = some v
    · simp only [h, if_true, Option.some.injEq] at hj
      have : v ∈ l := List.mem_of_getElem? h
      simp [this, ← hj, orE]
    · simp [h] at hj
/-- The first fault of the corners by themselves. -/
noncomputable def cornF (l : List Spot) (i : Nat) : Option Int := match l[i]? with
  | none => none
  | some s => open Classical in if ¬ SBn s then some 1 else if s ∈ l.take i then some 6 else none
theorem Check_l1_eq (f : FenceS) (hl : f.Corners.length ≤ 200) : place_CheckFence_l1 f 0 = orE (firstG (cornF f.Corners) 0 f.Corners.length) (place_CheckFence_k1 f) := by
  unfold place_CheckFence_l1
  rw [show (0 : Int) = ((0 : Nat) : Int) from rfl]
  refine iter_first (fun x : Int => place_CheckFence_b1 f x) (cornF f.Corners) f.Corners.length (place_CheckFence_k1 f) 0 (fun i _ hi => ?_) ?_ f.Corners.length 0 (by omega) (by omega)
  · obtain ⟨x, hx⟩ : ∃ x, f.Corners[i]? = some x := ⟨f.Corners[i], by simp [hi]⟩
    have hi' : idx f.Corners (i : Int) = some x := by unfold idx; rw [if_pos (by omega), Int.toNat_natCast]; exact hx
    show place_CheckFence_b1 f (i : Int) = _
    rw [place_CheckFence_b1, if_pos (by omega), hi', w64_in (by omega) (by omega), slc_in (by omega) (by omega) (by omega)]
    simp only [Option.bind_some]
    rw [Contains_eq _ _ (by simp; omega)]
    simp only [Option.bind_some, cornF, hx, Int.toNat_natCast, Int.toNat_zero, List.drop_zero, Nat.sub_zero]
    by_cases h : SBn x
    · rw [(isSpot_eq x).2 h]
      by_cases h2 : x ∈ f.Corners.take i <;> simp [h, h2]
    · have : place_isSpot x = false := by
        cases hb : place_isSpot x with
        | false => rfl
        | true => exact absurd ((isSpot_eq x).1 hb) h
      simp [h, this]
  · show place_CheckFence_b1 f ((f.Corners.length : Nat) : Int) = _
    rw [place_CheckFence_b1, if_neg (by omega)]
theorem Corners_l1_eq (l : List Spot) (hl : l.length ≤ 200) : Q_CornersFault_l1 l 0 = orE (firstG (cornF l) 0 l.length) (Q_CornersFault_l2 l 0) := by
  unfold Q_CornersFault_l1
  rw [show iter (fun x : Int => Q_CornersFault_b1 l x) 0 = iter (fun x : Int => Q_CornersFault_b1 l x) ((0 : Nat) : Int) from rfl]
  refine iter_first (fun x : Int => Q_CornersFault_b1 l x) (cornF l) l.length (Q_CornersFault_l2 l 0) 0 (fun i _ hi => ?_) ?_ l.length 0 (by omega) (by omega)
  · obtain ⟨x, hx⟩ : ∃ x, l[i]? = some x := ⟨l[i], by simp [hi]⟩
    have hi' : idx l (i : Int) = some x := by unfold idx; rw [if_pos (by omega), Int.toNat_natCast]; exact hx
    show Q_CornersFault_b1 l (i : Int) = _
    rw [Q_CornersFault_b1, if_pos (by omega), hi', w64_in (by omega) (by omega), slc_in (by omega) (by omega) (by omega)]
    simp only [Option.bind_some]
    rw [Contains_eq _ _ (by simp; omega)]
    simp only [Option.bind_some, cornF, hx, Int.toNat_natCast, Int.toNat_zero, List.drop_zero, Nat.sub_zero]
    by_cases h : SBn x
    · rw [(SpotFault_eq x).1 h]
      by_cases h2 : x ∈ l.take i <;> simp [h, h2]
    · rw [(SpotFault_eq x).2 h]
      simp [h]
  · show Q_CornersFault_b1 l ((l.length : Nat) : Int) = _
    rw [Q_CornersFault_b1, if_neg (by omega)]
theorem corn_ok {l : List Spot} (h : firstG (cornF l) 0 l.length = none) : (∀ x ∈ l, SB x) ∧ Dist l := by
  have h' : ∀ i, i < l.length → cornF l i = none := fun i hi => firstG_none.1 h i (by omega) (by omega)
  have key : ∀ i (hi : i < l.length), SBn l[i] ∧ l[i] ∉ l.take i := by
    intro i hi
    have := h' i hi
    unfold cornF at this
    simp only [List.getElem?_eq_getElem hi] at this
    by_cases h1 : SBn l[i]
    · by_cases h2 : l[i] ∈ l.take i
      · simp [h1, h2] at this
      · exact ⟨h1, h2⟩
    · simp [h1] at this
  constructor
  · intro x hx
    obtain ⟨i, hi, he⟩ := List.getElem_of_mem hx
    rw [← he]; exact (key i hi).1.w
  · have half : ∀ i j, i < j → j < l.length → pl l i ≠ pl l j := by
      intro i j hij hj e
      rw [← pl_at (show i < l.length by omega), ← pl_at hj, ← GS_inj] at e
      refine (key j hj).2 ?_
      rw [← e]
      rw [List.mem_take_iff_getElem]
      exact ⟨i, by omega, rfl⟩
    intro i j hi hj e
    rcases Nat.lt_trichotomy i j with k | k | k
    · exact absurd e (half i j k hj)
    · exact k
    · exact absurd e.symm (half j i k hi)
/-- What is wrong with corners. -/
noncomputable def cornE (l : List Spot) : Int := open Classical in
  if l.length < 3 then 3 else if 200 < l.length then 2 else match firstG (cornF l) 0 l.length with
  | some e => e
  | none => if ∃ i, 0 ≤ i ∧ i < l.length ∧ ∃ k, 0 ≤ k ∧ k < l.length ∧ k ≠ i ∧ badQ l i k then 13 else 0
theorem CornersFault_eq (l : List Spot) : Q_CornersFault l = some (cornE l) := by
  unfold Q_CornersFault cornE
  by_cases h1 : l.length < 3
  · rw [if_pos (by omega), if_pos h1]
  · rw [if_neg (by omega), if_neg h1]
    by_cases h2 : 200 < l.length
    · rw [if_pos (by omega), if_pos h2]
    · rw [if_neg (by omega), if_neg h2, Corners_l1_eq l (by omega)]
      cases hg : firstG (cornF l) 0 l.length with
      | some e => rfl
      | none =>
        simp only [orE]
        have hc := Corners_l2_eq (corn_ok hg).1 (by omega)
        split
        · rename_i h; exact hc.1 h
        · rename_i h; exact hc.2 h
noncomputable def fenE (f : FenceS) : Int := if keyB f.Key = true then cornE f.Corners else 5
theorem FenceFault_eq (f : FenceS) : Q_FenceFault f = some (fenE f) := by
  unfold Q_FenceFault fenE
  rw [QKey_eq, CornersFault_eq]
  simp only [Option.bind_some]
  cases keyB f.Key <;> simp
theorem CheckFence_eq (f : FenceS) : place_CheckFence f = some (fenE f) := by
  unfold place_CheckFence fenE
  rw [Key_eq]
  simp only [Option.bind_some]
  cases keyB f.Key with
  | false => simp
  | true =>
    simp only [Bool.not_true, Bool.false_eq_true, if_false, if_true]
    unfold cornE
    by_cases h1 : f.Corners.length < 3
    · rw [if_pos (by omega), if_pos h1]
    · rw [if_neg (by omega), if_neg h1]
      by_cases h2 : 200 < f.Corners.length
      · rw [if_pos (by omega), if_pos h2]
      · rw [if_neg (by omega), if_neg h2, Check_l1_eq f (by omega)]
        cases hg : firstG (cornF f.Corners) 0 f.Corners.length with
        | some e => rfl
        | none =>
          simp only [orE]
          obtain ⟨hs, hd⟩ := corn_ok hg
          have hc := crossed_eq hs (by omega) (by omega)
          rw [bad_same hd (by omega)] at hc
          unfold place_CheckFence_k1
          split
          · rename_i h; rw [hc.1 h]; rfl
          · rename_i h; rw [hc.2 h]; rfl
/-- A right fence. -/
structure Right (l : List Spot) : Prop where
  lo : 3 ≤ l.length
  hi : l.length ≤ 200
  sb : ∀ x ∈ l, SB x
  simple : Simple (pl l) (l.length - 3)
theorem cornE_right {l : List Spot} (h : cornE l = 0) : Right l := by
  unfold cornE at h
  by_cases h1 : l.length < 3
  · rw [if_pos h1] at h; omega
  · rw [if_neg h1] at h
    by_cases h2 : 200 < l.length
    · rw [if_pos h2] at h; omega
    · rw [if_neg h2] at h
      cases hg : firstG (cornF l) 0 l.length with
      | some e =>
        rw [hg] at h
        simp only at h
        obtain ⟨j, _, _, hj⟩ := firstG_some hg
        unfold cornF at hj
        cases hx : l[j]? with
        | none => rw [hx] at hj; simp at hj
        | some x =>
          rw [hx] at hj
          simp only at hj
          subst h
          split at hj
          · simp at hj
          · split at hj
            · simp at hj
            · simp at hj
      | none =>
        rw [hg] at h
        simp only at h
        obtain ⟨hs, hd⟩ := corn_ok hg
        split at h
        · omega
        · rename_i hb
          exact ⟨by omega, by omega, hs, simple_of hd (by omega) hb⟩
theorem fenE_right {f : FenceS} (h : fenE f = 0) : Right f.Corners := by
  unfold fenE at h
  split at h
  · exact cornE_right h
  · omega
/-! where a spot lies -/
noncomputable def whereE (l : List Spot) (s : Spot) : Int := open Classical in
  if ∃ i, i < l.length ∧ onS (pl l i) (pl l (i + 1)) (GS s) then 1 else if turns (pl l) l.length (GS s) ≠ 0 then 2 else 0
theorem edges_any {l : List Spot} (hl : l.length ≤ 100000) (f : Spot → Spot → Option Bool) (B : Nat → Prop) (hf : ∀ i a b, i < l.length → GS a = pl l i → GS b = pl l (i + 1) → a ∈ l → b ∈ l → (B i → f a b = some true) ∧ (¬ B i → f a b = some false)) : ((∃ i, 0 ≤ i ∧ i < l.length ∧ B i) → place_edges l f = some true) ∧ ((¬ ∃ i, 0 ≤ i ∧ i < l.length ∧ B i) → place_edges l f = some false) := by
  unfold place_edges place_edges_l1
  refine iter_anyP (fun x : Int => place_edges_b1 l f x) B true false l.length 0 (fun i _ hi => ?_) ?_ (by omega)
  · obtain ⟨a, b, a1, a2, a3, a4, a5, a6, a7⟩ := edge_at l hi hl
    show (_ → place_edges_b1 l f (i : Int) = _) ∧ (_ → place_edges_b1 l f (i : Int) = _)
    rw [place_edges_b1, if_pos (by omega), a1]
    simp only [Option.bind_some]
    rw [a2]
    simp only [Option.bind_some]
    rw [a3]
    simp only [Option.bind_some]
    rw [w64_in (by omega) (by omega)]
    have := hf i a b hi a4 a5 a6 a7
    constructor
    · intro h; rw [this.1 h]; rfl
    · intro h; rw [this.2 h]; rfl
  · show place_edges_b1 l f ((l.length : Nat) : Int) = _
    rw [place_edges_b1, if_neg (by omega)]; rfl
theorem toggle {a b s : Spot} (ha : SB a) (hb : SB b) (hs : SB s) (c : Bool) : place_where_2x a b s c = (false, if cr (GS a) (GS b) (GS s) = 0 then c else !c) := by
  have key : ∀ {a b : Spot}, SB a → SB b → a.Y ≤ b.Y → place_where_2x_j1 s c a.X a.Y b.X b.Y = (false, if cr (GS a) (GS b) (GS s) = 0 then c else !c) := by
    intro a b ha hb hab
    unfold place_where_2x_j1 place_where_2x_j2 place_where_2x_j3
    have e := side_eq ha hb hs
    have e' : place_side (⟨a.X, a.Y⟩ : Spot) (⟨b.X, b.Y⟩ : Spot) s = place_side a b s := rfl
    rw [e', e]
    have hc : cr (GS a) (GS b) (GS s) = if a.Y ≤ s.Y ∧ s.Y < b.Y ∧ 0 < sd (GS a) (GS b) (GS s) then 1 else 0 := by
      unfold cr
      show (if a.Y ≤ s.Y ∧ s.Y < b.Y ∧ _ then 1 else if b.Y ≤ s.Y ∧ s.Y < a.Y ∧ _ then -1 else 0) = _
      repeat' split
      all_goals omega
    rw [hc]
    by_cases h : a.Y ≤ s.Y ∧ s.Y < b.Y ∧ 0 < sd (GS a) (GS b) (GS s)
    · rw [if_pos h, if_pos (by simpa using h)]; simp
    · rw [if_neg h, if_neg (by simpa using h)]; simp
  unfold place_where_2x
  by_cases h : b.Y < a.Y
  · rw [if_pos h, key hb ha (by omega), cr_swap (GS a)]
    by_cases h2 : cr (GS a) (GS b) (GS s) = 0
    · simp [h2]
    · have : ¬ -cr (GS a) (GS b) (GS s) = 0 := by omega
      simp [h2, this]
  · rw [if_neg h, key ha hb (by omega)]
theorem parity_loop {l : List Spot} (hS : ∀ x ∈ l, SB x) (hl : l.length ≤ 100000) {s : Spot} (hs : SB s) : ∀ (m i : Nat) (c : Bool), i + m = l.length → (c = decide (Sm (fun j => cr (pl l j) (pl l (j + 1)) (GS s)) i % 2 ≠ 0)) → place_edges_f1x_place_where_2x_l1 l s c (i : Int) = some (false, decide (turns (pl l) l.length (GS s) % 2 ≠ 0)) := by
  intro m
  induction m with
  | zero =>
    intro i c hi hc
    unfold place_edges_f1x_place_where_2x_l1
    rw [iter_eq, place_edges_f1x_place_where_2x_b1, if_neg (by simp only; omega), map_inr_after, hc]
    obtain rfl : i = l.length := by omega
    rfl
  | succ m ih =>
    intro i c hi hc
    obtain ⟨a, b, a1, a2, a3, a4, a5, a6, a7⟩ := edge_at l (show i < l.length by omega) hl
    unfold place_edges_f1x_place_where_2x_l1 at ih ⊢
    rw [iter_eq, place_edges_f1x_place_where_2x_b1, if_pos (by simp only; omega)]
    simp only [a1, a2, a3, Option.bind_some]
    rw [toggle (hS a a6) (hS b a7) hs]
    simp only [Bool.false_eq_true, if_false, Option.bind_some, after_inl]
    rw [w64_in (by omega) (by omega)]
    refine ih (i + 1) _ (by omega) ?_
    have hv : cr (GS a) (GS b) (GS s) = 0 ∨ cr (GS a) (GS b) (GS s) = 1 ∨ cr (GS a) (GS b) (GS s) = -1 := by
      unfold cr
      repeat' split
      all_goals omega
    have hS1 : Sm (fun j => cr (pl l j) (pl l (j + 1)) (GS s)) (i + 1) = Sm (fun j => cr (pl l j) (pl l (j + 1)) (GS s)) i + cr (GS a) (GS b) (GS s) := by rw [a4, a5]; rfl
    rw [hS1, hc]
    generalize Sm (fun j => cr (pl l j) (pl l (j + 1)) (GS s)) i = S
    by_cases h0 : cr (GS a) (GS b) (GS s) = 0
    · rw [if_pos h0, h0, Int.add_zero]
    · rw [if_neg h0]
      by_cases hp : S % 2 ≠ 0
      · rw [decide_eq_true hp, decide_eq_false (by omega)]; rfl
      · rw [decide_eq_false hp, decide_eq_true (by omega)]; rfl
theorem where_eq {l : List Spot} (hr : Right l) {s : Spot} (hs : SB s) : place_where l s = some (whereE l s) := by
  have hl := hr.hi
  unfold place_where whereE
  have he := edges_any (l := l) (by omega) (fun y0 y1 => some (place_where_1x y0 y1 s)) (fun i => onS (pl l i) (pl l (i + 1)) (GS s)) (fun i a b hi h1 h2 h3 h4 => by
    unfold place_where_1x
    rw [on_eq (hr.sb a h3) (hr.sb b h4) hs, h1, h2]
    constructor
    · intro h; simp [h]
    · intro h; simp [h])
  by_cases h : ∃ i, i < l.length ∧ onS (pl l i) (pl l (i + 1)) (GS s)
  · obtain ⟨i, i1, i2⟩ := h
    rw [he.1 ⟨i, by omega, i1, i2⟩, if_pos ⟨i, i1, i2⟩]
    rfl
  · rw [he.2 (fun ⟨i, _, i1, i2⟩ => h ⟨i, i1, i2⟩), if_neg h]
    simp only [Option.bind_some, Bool.false_eq_true, if_false]
    unfold place_edges_f1x_place_where_2x
    rw [show (0 : Int) = ((0 : Nat) : Int) from rfl, parity_loop hr.sb (by omega) hs l.length 0 false (by omega) (by simp [Sm])]
    have hn : l.length - 3 + 3 = l.length := by have := hr.lo; omega
    have ht := turns_one hr.simple (s := GS s) (fun j hj => h ⟨j % l.length, Nat.mod_lt _ (by have := hr.lo; omega), by rw [pl_mod, pl_mod1]; exact hj⟩)
    rw [hn] at ht
    simp only [Option.bind_some]
    rcases ht with ht | ht | ht <;> rw [ht] <;> decide
theorem WhereOf_loop {l : List Spot} (hS : ∀ x ∈ l, SB x) (hl : l.length ≤ 100000) {s : Spot} (hs : SB s) : ∀ (m i : Nat), i + m = l.length → (¬ ∃ j, j < i ∧ onS (pl l j) (pl l (j + 1)) (GS s)) → Q_WhereOf_l1 l s (Sm (fun j => cr (pl l j) (pl l (j + 1)) (GS s)) i) (i : Int) = some (whereE l s) := by
  intro m
  induction m with
  | zero =>
    intro i hi hno
    obtain rfl : i = l.length := by omega
    unfold Q_WhereOf_l1
    rw [iter_eq, Q_WhereOf_b1, if_neg (by simp only; omega), map_inr_after]
    unfold Q_WhereOf_k5 whereE turns
    rw [if_neg hno]
    split <;> rfl
  | succ m ih =>
    intro i hi hno
    have hil : i < l.length := by omega
    obtain ⟨a, b, a1, a4, a5, a6, a7⟩ := Qedge_at l hil hl
    have hbd : ∀ k : Nat, -(k : Int) ≤ Sm (fun j => cr (pl l j) (pl l (j + 1)) (GS s)) k ∧ Sm (fun j => cr (pl l j) (pl l (j + 1)) (GS s)) k ≤ k := by
      intro k
      induction k with
      | zero => simp [Sm]
      | succ k ih =>
        simp only [Sm]
        have hv : -1 ≤ cr (pl l k) (pl l (k + 1)) (GS s) ∧ cr (pl l k) (pl l (k + 1)) (GS s) ≤ 1 := by
          unfold cr
          repeat' split
          all_goals omega
        omega
    unfold Q_WhereOf_l1 at ih ⊢
    rw [iter_eq, Q_WhereOf_b1, if_pos (by simp only; omega)]
    simp only [a1, Option.bind_some]
    rw [onWay_eq (hS a a6) (hS b a7) hs, a4, a5]
    by_cases hon : onS (pl l i) (pl l (i + 1)) (GS s)
    · rw [if_pos (by simpa using hon), map_inr_after]
      unfold whereE
      rw [if_pos ⟨i, hil, hon⟩]
    · rw [if_neg (by simpa using hon)]
      have hq := Qside_s (hS a a6) (hS b a7) hs
      have hb := hbd i
      have step : Q_WhereOf_j1 s (Sm (fun j => cr (pl l j) (pl l (j + 1)) (GS s)) i) (i : Int) (a, b) (decide (a.Y ≤ s.Y) && (decide (s.Y < b.Y) && decide (0 < Q_side a b s))) = some (.inl (Sm (fun j => cr (pl l j) (pl l (j + 1)) (GS s)) (i + 1), (i : Int) + 1)) := by
        unfold Q_WhereOf_j1 Q_WhereOf_j2 Q_WhereOf_j3 Q_WhereOf_j4 Q_WhereOf_j2
        simp only [Sm]
        rw [← a4, ← a5]
        generalize Sm (fun j => cr (pl l j) (pl l (j + 1)) (GS s)) i = S at *
        rw [w64_in (x := S + 1) (by omega) (by omega), w64_in (x := S - 1) (by omega) (by omega), w64_in (x := (i : Int) + 1) (by omega) (by omega)]
        have hc : cr (GS a) (GS b) (GS s) = if a.Y ≤ s.Y ∧ s.Y < b.Y ∧ 0 < sd (GS a) (GS b) (GS s) then 1 else if b.Y ≤ s.Y ∧ s.Y < a.Y ∧ sd (GS a) (GS b) (GS s) < 0 then -1 else 0 := rfl
        rw [hc]
        simp only [Bool.and_eq_true, decide_eq_true_eq, hq.2.1, hq.2.2]
        by_cases c1 : a.Y ≤ s.Y ∧ s.Y < b.Y ∧ 0 < sd (GS a) (GS b) (GS s)
        · rw [if_pos c1, if_pos c1]
        · rw [if_neg c1, if_neg c1]
          by_cases c2 : b.Y ≤ s.Y ∧ s.Y < a.Y ∧ sd (GS a) (GS b) (GS s) < 0
          · rw [if_pos c2, if_pos ⟨c2.2.1, c2.1, c2.2.2⟩]; rfl
          · rw [if_neg c2, if_neg (fun h => c2 ⟨h.2.1, h.1, h.2.2⟩), Int.add_zero]
      rw [step]
      simp only [Option.bind_some, after_inl]
      refine ih (i + 1) (by omega) ?_
      rintro ⟨j, j1, j2⟩
      by_cases e : j = i
      · subst e; exact hon j2
      · exact hno ⟨j, by omega, j2⟩
theorem WhereOf_eq {l : List Spot} (hS : ∀ x ∈ l, SB x) (hl : l.length ≤ 100000) {s : Spot} (hs : SB s) : Q_WhereOf l s = some (whereE l s) := by
  unfold Q_WhereOf
  exact WhereOf_loop hS hl hs l.length 0 (by omega) (fun ⟨j, h, _⟩ => by omega)
end Go.Beacon

/- Fences and spots that are drawn. No program in sight. -/
set_option linter.unusedVariables false
set_option linter.unusedSimpArgs false
namespace Go.Beacon
open Go Go.Eng

theorem Place_ok {s : Stm} {k : Int} (hs : SOk s (k + 2)) (hk : 0 ≤ k) : Gen (Stream_Place s) k (fun p => (-5 ≤ p.X ∧ p.X ≤ 20) ∧ (-5 ≤ p.Y ∧ p.Y ≤ 20)) := by
  unfold Stream_Place
  refine Gen.bind (Pick_ok (k := k + 1) (hs.less (by omega)) (by simp) (by simp) (by omega)) (fun a s1 ha hs1 => ?_)
  refine Gen.bind (Pick_ok (k := k) (hs1.less (by omega)) (by simp) (by simp) (by omega)) (fun b s2 hb hs2 => ?_)
  exact Gen.ret ⟨pick_le ha (by decide), pick_le hb (by decide)⟩ hs2
theorem Spot_ok {s : Stm} {k : Int} (hs : SOk s (k + 5)) (hk : 0 ≤ k) : Gen (Stream_Spot s) k (fun p => (-1099511627777 ≤ p.X ∧ p.X ≤ 1099511627777) ∧ (-1099511627777 ≤ p.Y ∧ p.Y ≤ 1099511627777)) := by
  unfold Stream_Spot Stream_Spot_j1
  refine Gen.bind (Place_ok (k := k + 3) (hs.less (by omega)) (by omega)) (fun a s1 ha hs1 => ?_)
  refine Gen.bind (Flip_ok (k := k + 2) (hs1.less (by omega)) (by omega) (by omega) (by omega)) (fun c s2 hc hs2 => ?_)
  simp only
  split
  · refine Gen.bind (Odd_ok (k := k) (hs2.less (by omega)) (by omega) (by omega) (by omega) (by omega)) (fun b s3 hb hs3 => ?_)
    exact Gen.ret ⟨by simp only; omega, by simp only; omega⟩ hs3
  · exact Gen.ret ⟨by simp only; omega, by simp only; omega⟩ (hs2.less (by omega))
def LenB (l : List Spot) : Prop := 3 ≤ l.length ∧ l.length ≤ 10
/-- One of the rounds: another one, or a right fence. -/
def RG (m : Option (((List Int) × Int × Int) ⊕ (FenceS × Stm))) (n : Int) (k : Int) : Prop := (∃ l a, m = some (.inl (l, a, n + 1)) ∧ SOk ⟨l, a⟩ k) ∨ (∃ f s, m = some (.inr (f, s)) ∧ SOk s k ∧ LenB f.Corners)
theorem RF_j1 {n8 : Int} (h8 : 0 ≤ n8 ∧ n8 < 4) {l : List Int} {a : Int} {c : List Spot} {k : Int} (hs : SOk ⟨l, a⟩ k) (hc : LenB c) : RG (Stream_RightFence_j1 n8 l a c) n8 k := by
  unfold Stream_RightFence_j1
  rw [CornersFault_eq]
  simp only [Option.bind_some]
  split
  · exact .inr ⟨_, _, rfl, hs, hc⟩
  · rw [w64_in (by omega) (by omega)]
    exact .inl ⟨_, _, rfl, hs⟩
theorem RF_l3 {n8 : Int} (h8 : 0 ≤ n8 ∧ n8 < 4) {c : List Spot} (hc : LenB c) {k : Int} (hk : 0 ≤ k) : ∀ (m : Nat) (l : List Int) (a : Int) (d : List Spot) (i : Int), 0 ≤ i → i + m = c.length → SOk ⟨l, a⟩ (k + m) → d.length = c.length → RG (Stream_RightFence_l3 n8 c l a d i) n8 k := by
  intro m
  induction m with
  | zero =>
    intro l a d i h0 h1 hs hd
    unfold Stream_RightFence_l3
    rw [iter_eq, Stream_RightFence_b3, if_neg (by simp only; omega), map_inr_after]
    exact RF_j1 h8 (hs.less (by omega)) (by unfold LenB at *; simp only; omega)
  | succ m ih =>
    intro l a d i h0 h1 hs hd
    unfold LenB at hc
    obtain ⟨x, hx, _, _⟩ := idx_lt d h0 (by omega)
    unfold Stream_RightFence_l3 at ih ⊢
    rw [iter_eq, Stream_RightFence_b3, if_pos (by simp only; omega)]
    simp only [hx, Option.bind_some]
    obtain ⟨v, s1, e1, p1, q1⟩ := Pick_ok (s := ⟨l, a⟩) (l := [(1 : Int), (100 : Int), (-400 : Int)]) (k := k + m) (hs.less (by omega)) (by simp) (by simp) (by omega)
    simp only [e1, Option.bind_some, after_inl]
    rw [w64_in (x := i + 1) (by omega) (by omega)]
    exact ih s1.L s1.at_ _ (i + 1) (by omega) (by omega) q1 (by simpa using hd)
theorem RF_l2 {n8 : Int} (h8 : 0 ≤ n8 ∧ n8 < 4) {v9 : Int × Stm} (hv : 3 ≤ v9.1 ∧ v9.1 ≤ 6) {k : Int} (hk : 0 ≤ k) : ∀ (m : Nat) (l : List Int) (a : Int) (c : List Spot) (i : Int), 0 ≤ i → i + m = v9.1 → SOk ⟨l, a⟩ (k + 11 + 2 * m) → (c.length : Int) = i → RG (Stream_RightFence_l2 n8 v9 l a c i) n8 k := by
  intro m
  induction m with
  | zero =>
    intro l a c i h0 h1 hs hc
    have hcl : LenB c := by unfold LenB; omega
    unfold Stream_RightFence_l2
    rw [iter_eq, Stream_RightFence_b2, if_neg (by simp only; omega), map_inr_after]
    unfold Stream_RightFence_k2
    obtain ⟨v, s1, e1, p1, q1⟩ := Flip_ok (s := ⟨l, a⟩) (n := 6) (k := k + 10) (hs.less (by omega)) (by omega) (by omega) (by omega)
    simp only [e1, Option.bind_some]
    split
    · exact RF_l3 h8 hcl hk c.length s1.L s1.at_ c 0 (by omega) (by omega) (q1.less (by unfold LenB at hcl; omega)) rfl
    · exact RF_j1 h8 (q1.less (by omega)) hcl
  | succ m ih =>
    intro l a c i h0 h1 hs hc
    unfold Stream_RightFence_l2 at ih ⊢
    rw [iter_eq, Stream_RightFence_b2, if_pos (by simp only; omega)]
    obtain ⟨v, s1, e1, p1, q1⟩ := Place_ok (s := ⟨l, a⟩) (k := k + 11 + 2 * m) (hs.less (by omega)) (by omega)
    simp only [e1, Option.bind_some]
    rw [app_le (by simp; omega)]
    simp only [Option.bind_some, after_inl]
    rw [w64_in (by omega) (by omega)]
    exact ih s1.L s1.at_ _ (i + 1) (by omega) (by omega) q1 (by simp; omega)
theorem RF_l1 {k : Int} (hk : 0 ≤ k) : ∀ (m : Nat) (l : List Int) (a : Int) (n8 : Int), 0 ≤ n8 → n8 + m = 4 → SOk ⟨l, a⟩ (k + 1 + 24 * m) → Gen (Stream_RightFence_l1 l a n8) k (fun f => LenB f.Corners) := by
  intro m
  induction m with
  | zero =>
    intro l a n8 h0 h1 hs
    unfold Stream_RightFence_l1
    rw [iter_eq, Stream_RightFence_b1, if_neg (by simp only; omega), map_inr_after]
    unfold Stream_RightFence_k6 Stream_RightFence_j3 Stream_RightFence_j4 Stream_RightFence_j5 Stream_RightFence_j4 Stream_RightFence_j3
    refine Gen.bind (Next_ok (k := k) (hs.less (by omega)) (by omega) (by omega) (by omega)) (fun v s1 hv hs1 => ?_)
    repeat' split
    all_goals exact Gen.ret (by unfold LenB; simp) hs1
  | succ m ih =>
    intro l a n8 h0 h1 hs
    unfold Stream_RightFence_l1 at ih ⊢
    rw [iter_eq, Stream_RightFence_b1, if_pos (by simp only; omega)]
    obtain ⟨v, s1, e1, p1, q1⟩ := Range_ok (s := ⟨l, a⟩) (a := 3) (b := 6) (k := k + 1 + 24 * m + 23) (hs.less (by omega)) (by omega) (by omega) (by omega) (by omega)
    simp only [e1, Option.bind_some]
    rcases RF_l2 (n8 := n8) ⟨h0, by omega⟩ (v9 := (v, s1)) p1 (k := k + 1 + 24 * m) (by omega) v.toNat s1.L s1.at_ [] 0 (by omega) (by simp only; omega) (q1.less (by omega)) (by simp) with ⟨l', a', e2, q2⟩ | ⟨f, s2, e2, q2, hf⟩
    · simp only [e2, Option.bind_some, after_inl]
      exact ih l' a' (n8 + 1) (by omega) (by omega) q2
    · simp only [e2, Option.bind_some, after_inr]
      exact Gen.ret hf (q2.less (by omega))
theorem RightFence_ok {s : Stm} {k : Int} (hs : SOk s (k + 97)) (hk : 0 ≤ k) : Gen (Stream_RightFence s) k (fun f => LenB f.Corners) := by
  unfold Stream_RightFence
  exact RF_l1 hk 4 s.L s.at_ 0 (by omega) (by omega) (hs.less (by omega))
theorem Fence_ok {s : Stm} {k : Int} (hs : SOk s (k + 107)) (hk : 0 ≤ k) : Gen (Stream_Fence s) k (fun f => f.Corners.length ≤ 11) := by
  unfold Stream_Fence Stream_Fence_j4 Stream_Fence_j3 Stream_Fence_j2 Stream_Fence_j1
  refine Gen.bind (RightFence_ok (k := k + 10) (hs.less (by omega)) (by omega)) (fun f s1 hf hs1 => ?_)
  unfold LenB at hf
  refine Gen.bind (Flip_ok (k := k + 9) (hs1.less (by omega)) (by omega) (by omega) (by omega)) (fun c s2 hc hs2 => ?_)
  simp only
  split
  · refine Gen.bind (Next_ok (k := k + 8) (hs2.less (by omega)) (by omega) (by omega) (by omega)) (fun v s3 hv hs3 => ?_)
    simp only
    split
    · refine Gen.bind (Some_ok (k := k + 7) (hs3.less (by omega)) (by simp) (by simp) (by omega)) (fun d s4 hd hs4 => ?_)
      exact Gen.ret (by simp only; omega) (hs4.less (by omega))
    · split
      · refine Gen.bind (Next_ok (k := k + 7) (hs3.less (by omega)) (by omega) (by omega) (by omega)) (fun i s4 hi hs4 => ?_)
        simp only
        rw [slc_in (by omega) (by omega) (by omega)]
        exact Gen.ret (by simp; omega) (hs4.less (by omega))
      · split
        · unfold slices_Clone_Spot_Spot
          rw [app_le (by simp; omega)]
          simp only [Option.bind_some, List.nil_append]
          refine Gen.bind (Spot_ok (k := k + 3) (hs3.less (by omega)) (by omega)) (fun p s4 hp hs4 => ?_)
          simp only
          rw [app_le (by simp; omega)]
          exact Gen.ret (by simp; omega) (hs4.less (by omega))
        · refine Gen.bind (Place_ok (k := k + 6) (hs3.less (by omega)) (by omega)) (fun p1 s4 hp1 hs4 => ?_)
          refine Gen.bind (Place_ok (k := k + 4) (hs4.less (by omega)) (by omega)) (fun p2 s5 hp2 hs5 => ?_)
          refine Gen.bind (Place_ok (k := k + 2) (hs5.less (by omega)) (by omega)) (fun p3 s6 hp3 hs6 => ?_)
          refine Gen.bind (Place_ok (k := k) (hs6.less (by omega)) (by omega)) (fun p4 s7 hp4 hs7 => ?_)
          exact Gen.ret (by simp) hs7
  · exact Gen.ret (by simp only; omega) (hs2.less (by omega))
theorem placedL_eq : L_placed = some true := by
  have hc : place_Cell ⟨0, 0⟩ 1 = some ([51], 0) := by
    unfold place_Cell
    have e : ((!(place_isSpot (⟨0, 0⟩ : Spot))) || base_Out 1 0 15) = false := by
      unfold place_isSpot place_isSpot_j1
      simp only [Out_eq]; decide
    rw [e]
    unfold place_Cell_j1
    rw [if_neg (by simp)]
    unfold place_Cell_l1
    rw [iter_eq, place_Cell_b1, if_pos (by decide), w64_in (by decide) (by decide), w64_in (by decide) (by decide), quo_pos (by decide) (by decide) (by decide)]
    simp only [Option.bind_some]
    rw [app_le (by simp)]
    simp only [Option.bind_some, after_inl]
    rw [iter_eq, place_Cell_b1, if_neg (by decide), map_inr_after]
    decide
  unfold L_placed L_placed_j1
  rw [hc]
  decide
end Go.Beacon

/- Squares: a spot in them, their halves. No program in sight. -/
set_option linter.unusedVariables false
set_option linter.unusedSimpArgs false
namespace Go.Beacon

/-- The corners of a square, round and round. -/
def sqp (x y g : Int) (k : Nat) : GP := if k % 4 = 0 then ⟨x, y⟩ else if k % 4 = 1 then ⟨x + g, y⟩ else if k % 4 = 2 then ⟨x + g, y + g⟩ else ⟨x, y + g⟩
theorem sq0 {x y g : Int} {k : Nat} (h : k % 4 = 0) : sqp x y g k = ⟨x, y⟩ := by unfold sqp; rw [if_pos h]
theorem sq1 {x y g : Int} {k : Nat} (h : k % 4 = 1) : sqp x y g k = ⟨x + g, y⟩ := by unfold sqp; rw [if_neg (by omega), if_pos h]
theorem sq2 {x y g : Int} {k : Nat} (h : k % 4 = 2) : sqp x y g k = ⟨x + g, y + g⟩ := by unfold sqp; rw [if_neg (by omega), if_neg (by omega), if_pos h]
theorem sq3 {x y g : Int} {k : Nat} (h : k % 4 = 3) : sqp x y g k = ⟨x, y + g⟩ := by unfold sqp; rw [if_neg (by omega), if_neg (by omega), if_neg (by omega)]
theorem sq_sd (x y g : Int) (k : Nat) : sd (sqp x y g k) (sqp x y g (k + 1)) (sqp x y g (k + 2)) = g * g ∧ sd (sqp x y g k) (sqp x y g (k + 1)) (sqp x y g (k + 3)) = g * g := by
  have hk : k % 4 = 0 ∨ k % 4 = 1 ∨ k % 4 = 2 ∨ k % 4 = 3 := by omega
  rcases hk with h | h | h | h
  · rw [sq0 h, sq1 (show (k + 1) % 4 = 1 by omega), sq2 (show (k + 2) % 4 = 2 by omega), sq3 (show (k + 3) % 4 = 3 by omega)]
    unfold sd; constructor <;> simp only <;> grind
  · rw [sq1 h, sq2 (show (k + 1) % 4 = 2 by omega), sq3 (show (k + 2) % 4 = 3 by omega), sq0 (show (k + 3) % 4 = 0 by omega)]
    unfold sd; constructor <;> simp only <;> grind
  · rw [sq2 h, sq3 (show (k + 1) % 4 = 3 by omega), sq0 (show (k + 2) % 4 = 0 by omega), sq1 (show (k + 3) % 4 = 1 by omega)]
    unfold sd; constructor <;> simp only <;> grind
  · rw [sq3 h, sq0 (show (k + 1) % 4 = 0 by omega), sq1 (show (k + 2) % 4 = 1 by omega), sq2 (show (k + 3) % 4 = 2 by omega)]
    unfold sd; constructor <;> simp only <;> grind
theorem sqp_per (x y g : Int) (k : Nat) : sqp x y g (k + 4) = sqp x y g k := by
  unfold sqp
  rw [show (k + 4) % 4 = k % 4 by omega]
theorem sq_simple (x y : Int) {g : Int} (hg : 0 < g) : Simple (sqp x y g) 1 := by
  have hgg : 0 < g * g := Int.mul_pos hg hg
  refine ⟨fun k => sqp_per x y g k, fun k e => ?_, fun k e => ?_, fun k e => ?_, fun k j hj e => ?_⟩
  · have h := (sq_sd x y g k).1
    rw [e, sd_aa] at h; omega
  · have h := (sq_sd x y g k).1
    have := e.1; omega
  · have h := (sq_sd x y g k).1
    have := e.1
    rw [sd_rot, sd_rot] at this
    first | omega | (rw [← sd_rot] at this; omega)
  · obtain rfl : j = 0 := by omega
    have h1 := sq_sd x y g k
    have h2 := sq_sd x y g (k + 2)
    rw [show k + 2 + 2 = k + 4 by omega, show k + 2 + 3 = k + 1 + 4 by omega, sqp_per, sqp_per] at h2
    rw [show k + 2 + 0 = k + 2 by omega, show k + 3 + 0 = k + 3 by omega] at e
    rw [show k + 2 + 1 = k + 3 by omega] at h2
    rcases e with e | e | e | e | e
    · have := e.1; omega
    · have := e.1; omega
    · have := e.1; omega
    · have := e.1; omega
    · have := e.1; unfold opp at this; omega
/-- A spot in a square, with its border. -/
def inB (x y g : Int) (p : GP) : Prop := (x ≤ p.x ∧ p.x ≤ x + g) ∧ (y ≤ p.y ∧ p.y ≤ y + g)
theorem sgn_g {g u : Int} (hg : 0 < g) : (0 < g * u ↔ 0 < u) ∧ (g * u < 0 ↔ u < 0) ∧ (g * u = 0 ↔ u = 0) := by
  refine ⟨(pos_mul hg).1, (pos_mul hg).2, ?_⟩
  constructor
  · intro h; exact mul_zero_r hg h
  · intro h; rw [h, Int.mul_zero]
theorem sq_turns (x y : Int) {g : Int} (hg : 0 < g) (s : GP) : turns (sqp x y g) 4 s = (if y ≤ s.y ∧ s.y < y + g ∧ s.x < x + g then 1 else 0) + (if y ≤ s.y ∧ s.y < y + g ∧ s.x < x then -1 else 0) := by
  have e0 : cr (sqp x y g 0) (sqp x y g 1) s = 0 := by
    rw [sq0 (by omega), sq1 (by omega)]; unfold cr; simp only
    rw [if_neg (by omega), if_neg (by omega)]
  have e2 : cr (sqp x y g 2) (sqp x y g 3) s = 0 := by
    rw [sq2 (by omega), sq3 (by omega)]; unfold cr; simp only
    rw [if_neg (by omega), if_neg (by omega)]
  have d1 : sd (sqp x y g 1) (sqp x y g 2) s = g * (x + g - s.x) := by
    rw [sq1 (by omega), sq2 (by omega)]; unfold sd; simp only; grind
  have d3 : sd (sqp x y g 3) (sqp x y g 4) s = g * (s.x - x) := by
    rw [sq3 (by omega), sq0 (k := 4) (by omega)]; unfold sd; simp only; grind
  have e1 : cr (sqp x y g 1) (sqp x y g 2) s = if y ≤ s.y ∧ s.y < y + g ∧ s.x < x + g then 1 else 0 := by
    have k1 := sgn_g (u := x + g - s.x) hg
    unfold cr
    rw [d1, sq1 (by omega), sq2 (by omega)]
    simp only
    generalize g * (x + g - s.x) = T at *
    repeat' split
    all_goals omega
  have e3 : cr (sqp x y g 3) (sqp x y g 4) s = if y ≤ s.y ∧ s.y < y + g ∧ s.x < x then -1 else 0 := by
    have k1 := sgn_g (u := s.x - x) hg
    unfold cr
    rw [d3, sq3 (by omega), sq0 (k := 4) (by omega)]
    simp only
    generalize g * (s.x - x) = T at *
    repeat' split
    all_goals omega
  show 0 + cr (sqp x y g 0) (sqp x y g 1) s + cr (sqp x y g 1) (sqp x y g 2) s + cr (sqp x y g 2) (sqp x y g 3) s + cr (sqp x y g 3) (sqp x y g 4) s = _
  rw [e0, e1, e2, e3]
  omega
theorem sq_in (x y : Int) {g : Int} (hg : 0 < g) (s : GP) : ((∃ i, i < 4 ∧ onS (sqp x y g i) (sqp x y g (i + 1)) s) ∨ turns (sqp x y g) 4 s ≠ 0) ↔ inB x y g s := by
  rw [sq_turns x y hg s]
  unfold inB
  constructor
  · rintro (⟨i, hi, _, h1, h2⟩ | h)
    · have hk : i = 0 ∨ i = 1 ∨ i = 2 ∨ i = 3 := by omega
      unfold btw at h1 h2
      rcases hk with h | h | h | h <;> subst h
      · rw [sq0 (by omega), sq1 (by omega)] at h1 h2; simp only at h1 h2; omega
      · rw [sq1 (by omega), sq2 (by omega)] at h1 h2; simp only at h1 h2; omega
      · rw [sq2 (by omega), sq3 (by omega)] at h1 h2; simp only at h1 h2; omega
      · rw [sq3 (by omega), sq0 (k := 3 + 1) (by omega)] at h1 h2; simp only at h1 h2; omega
    · split at h <;> split at h <;> omega
  · intro h
    by_cases h1 : s.x = x + g
    · left
      refine ⟨1, by omega, ?_, ?_, ?_⟩
      · rw [sq1 (by omega), sq2 (by omega)]; unfold sd; simp only; rw [h1]; grind
      · rw [sq1 (by omega), sq2 (by omega)]; unfold btw; simp only; omega
      · rw [sq1 (by omega), sq2 (by omega)]; unfold btw; simp only; omega
    · by_cases h2 : s.y = y + g
      · left
        refine ⟨2, by omega, ?_, ?_, ?_⟩
        · rw [sq2 (by omega), sq3 (by omega)]; unfold sd; simp only; rw [h2]; grind
        · rw [sq2 (by omega), sq3 (by omega)]; unfold btw; simp only; omega
        · rw [sq2 (by omega), sq3 (by omega)]; unfold btw; simp only; omega
      · right
        rw [if_pos (by omega), if_neg (by omega)]; omega
/-! an edge that is cut -/
theorem btw_of {γ α s t u : Int} (h0 : 0 ≤ α) (h1 : α ≤ γ) (hg : 0 < γ) (h : γ * (s - t) = α * (u - t)) : btw t u s := by
  unfold btw
  have e1 : γ * (u - s) = (γ - α) * (u - t) := by grind
  rcases Int.lt_trichotomy t u with c | c | c
  · left
    have p1 : 0 ≤ γ * (s - t) := by rw [h]; exact Int.mul_nonneg h0 (by omega)
    have p2 : 0 ≤ γ * (u - s) := by rw [e1]; exact Int.mul_nonneg (by omega) (by omega)
    have q1 : 0 ≤ s - t := by
      rcases Int.lt_or_le (s - t) 0 with k | k
      · have := ((sgn_g (u := s - t) hg).2.1).2 k; omega
      · exact k
    have q2 : 0 ≤ u - s := by
      rcases Int.lt_or_le (u - s) 0 with k | k
      · have := ((sgn_g (u := u - s) hg).2.1).2 k; omega
      · exact k
    omega
  · subst c
    have : γ * (s - t) = 0 := by rw [h]; simp
    have := ((sgn_g (u := s - t) hg).2.2).1 this
    omega
  · right
    have p1 : γ * (s - t) ≤ 0 := by
      rw [h]
      have : 0 ≤ α * (t - u) := Int.mul_nonneg h0 (by omega)
      have e : α * (u - t) = - (α * (t - u)) := by grind
      omega
    have p2 : γ * (u - s) ≤ 0 := by
      rw [e1]
      have : 0 ≤ (γ - α) * (t - u) := Int.mul_nonneg (by omega) (by omega)
      have e : (γ - α) * (u - t) = - ((γ - α) * (t - u)) := by grind
      omega
    have q1 : s - t ≤ 0 := by
      rcases Int.lt_or_le 0 (s - t) with k | k
      · have := ((sgn_g (u := s - t) hg).1).2 k; omega
      · exact k
    have q2 : u - s ≤ 0 := by
      rcases Int.lt_or_le 0 (u - s) with k | k
      · have := ((sgn_g (u := u - s) hg).1).2 k; omega
      · exact k
    omega
theorem cross_on {a b c d v : GP} (ho : opp (sd c d a) (sd c d b)) (h1 : sd a b v = 0) (h2 : sd c d v = 0) : onS a b v := by
  have ix : (sd c d b - sd c d a) * (v.x - a.x) = - sd c d a * (b.x - a.x) := by
    have : (sd c d b - sd c d a) * (v.x - a.x) - - sd c d a * (b.x - a.x) = -(d.x - c.x) * sd a b v + (b.x - a.x) * sd c d v := by unfold sd; grind
    rw [h1, h2] at this; omega
  have iy : (sd c d b - sd c d a) * (v.y - a.y) = - sd c d a * (b.y - a.y) := by
    have : (sd c d b - sd c d a) * (v.y - a.y) - - sd c d a * (b.y - a.y) = -(d.y - c.y) * sd a b v + (b.y - a.y) * sd c d v := by unfold sd; grind
    rw [h1, h2] at this; omega
  refine ⟨h1, ?_, ?_⟩
  · rcases ho with ho | ho
    · exact btw_of (by omega) (by omega) (by omega) ix
    · refine btw_of (γ := sd c d a - sd c d b) (α := sd c d a) (by omega) (by omega) (by omega) ?_
      have : (sd c d a - sd c d b) * (v.x - a.x) = - ((sd c d b - sd c d a) * (v.x - a.x)) := by grind
      rw [this, ix]; grind
  · rcases ho with ho | ho
    · exact btw_of (by omega) (by omega) (by omega) iy
    · refine btw_of (γ := sd c d a - sd c d b) (α := sd c d a) (by omega) (by omega) (by omega) ?_
      have : (sd c d a - sd c d b) * (v.y - a.y) = - ((sd c d b - sd c d a) * (v.y - a.y)) := by grind
      rw [this, iy]; grind
/-- The middle of an edge: (v = c + w, d = v + w). -/
theorem meet_mid {a b c d v : GP} (hx : d.x - v.x = v.x - c.x) (hy : d.y - v.y = v.y - c.y) (h : meet a b c d) : meet a b c v ∨ meet a b v d := by
  have f1 : ∀ s, sd c d s = 2 * sd c v s := fun s => by
    have e1 : d.x = 2 * v.x - c.x := by omega
    have e2 : d.y = 2 * v.y - c.y := by omega
    unfold sd; rw [e1, e2]; grind
  have f2 : ∀ s, sd c d s = 2 * sd v d s := fun s => by
    have e1 : d.x = 2 * v.x - c.x := by omega
    have e2 : d.y = 2 * v.y - c.y := by omega
    unfold sd; rw [e1, e2]; grind
  have f3 : 2 * sd a b v = sd a b c + sd a b d := by
    have e1 : d.x = 2 * v.x - c.x := by omega
    have e2 : d.y = 2 * v.y - c.y := by omega
    unfold sd; rw [e1, e2]; grind
  have f4 : sd c d v = 0 := by
    rw [f1, sd_r]; omega
  have half : ∀ s, onS c d s → onS c v s ∨ onS v d s := by
    rintro s ⟨h0, h1, h2⟩
    have g1 := f1 s
    have g2 := f2 s
    have z1 : sd c v s = 0 := by omega
    have z2 : sd v d s = 0 := by omega
    by_cases hcv : c.x = v.x
    · by_cases hc : btw c.y v.y s.y
      · exact .inl ⟨z1, by unfold btw at *; omega, hc⟩
      · exact .inr ⟨z2, by unfold btw at *; omega, by unfold btw at *; omega⟩
    · by_cases hc : btw c.x v.x s.x
      · refine .inl ⟨z1, hc, ?_⟩
        unfold sd at z1
        unfold btw at *
        rcases Int.lt_trichotomy c.y v.y with k | k | k
        · rcases Int.lt_or_le s.y c.y with m | m
          · omega
          · rcases Int.lt_or_le v.y s.y with m' | m'
            · exfalso
              rcases Int.lt_or_le c.x v.x with q | q
              · have a1 : 0 ≤ (v.x - s.x) * (v.y - c.y) := Int.mul_nonneg (by omega) (by omega)
                have a2 : 0 < (v.x - c.x) * (s.y - v.y) := Int.mul_pos (by omega) (by omega)
                grind
              · have a1 : 0 ≤ (s.x - v.x) * (v.y - c.y) := Int.mul_nonneg (by omega) (by omega)
                have a2 : 0 < (c.x - v.x) * (s.y - v.y) := Int.mul_pos (by omega) (by omega)
                grind
            · omega
        · omega
        · rcases Int.lt_or_le c.y s.y with m | m
          · omega
          · rcases Int.lt_or_le s.y v.y with m' | m'
            · exfalso
              rcases Int.lt_or_le c.x v.x with q | q
              · have a1 : 0 ≤ (v.x - s.x) * (c.y - v.y) := Int.mul_nonneg (by omega) (by omega)
                have a2 : 0 < (v.x - c.x) * (v.y - s.y) := Int.mul_pos (by omega) (by omega)
                grind
              · have a1 : 0 ≤ (s.x - v.x) * (c.y - v.y) := Int.mul_nonneg (by omega) (by omega)
                have a2 : 0 < (c.x - v.x) * (v.y - s.y) := Int.mul_pos (by omega) (by omega)
                grind
            · omega
      · refine .inr ⟨z2, by unfold btw at *; omega, ?_⟩
        unfold sd at z2
        unfold btw at *
        rcases Int.lt_trichotomy v.y d.y with k | k | k
        · rcases Int.lt_or_le d.y s.y with m | m
          · omega
          · rcases Int.lt_or_le s.y v.y with m' | m'
            · exfalso
              rcases Int.lt_or_le v.x d.x with q | q
              · have a1 : 0 ≤ (s.x - v.x) * (d.y - v.y) := Int.mul_nonneg (by omega) (by omega)
                have a2 : 0 < (d.x - v.x) * (v.y - s.y) := Int.mul_pos (by omega) (by omega)
                grind
              · have a1 : 0 ≤ (v.x - s.x) * (d.y - v.y) := Int.mul_nonneg (by omega) (by omega)
                have a2 : 0 < (v.x - d.x) * (v.y - s.y) := Int.mul_pos (by omega) (by omega)
                grind
            · omega
        · omega
        · rcases Int.lt_or_le s.y d.y with m | m
          · omega
          · rcases Int.lt_or_le v.y s.y with m' | m'
            · exfalso
              rcases Int.lt_or_le v.x d.x with q | q
              · have a1 : 0 ≤ (s.x - v.x) * (v.y - d.y) := Int.mul_nonneg (by omega) (by omega)
                have a2 : 0 < (d.x - v.x) * (s.y - v.y) := Int.mul_pos (by omega) (by omega)
                grind
              · have a1 : 0 ≤ (v.x - s.x) * (v.y - d.y) := Int.mul_nonneg (by omega) (by omega)
                have a2 : 0 < (v.x - d.x) * (s.y - v.y) := Int.mul_pos (by omega) (by omega)
                grind
            · omega
  rcases h with h | h | h | h | ⟨h, k⟩
  · exact .inl (.inl h)
  · exact .inr (.inr (.inl h))
  · rcases half a h with h | h
    · exact .inl (.inr (.inr (.inl h)))
    · exact .inr (.inr (.inr (.inl h)))
  · rcases half b h with h | h
    · exact .inl (.inr (.inr (.inr (.inl h))))
    · exact .inr (.inr (.inr (.inr (.inl h))))
  · have g1 := f1 a
    have g2 := f1 b
    have g3 := f2 a
    have g4 := f2 b
    by_cases hv : sd a b v = 0
    · exact .inl (.inr (.inl (cross_on k hv f4)))
    · by_cases hq : opp (sd a b c) (sd a b v)
      · exact .inl (.inr (.inr (.inr (.inr ⟨hq, by unfold opp at *; omega⟩))))
      · exact .inr (.inr (.inr (.inr (.inr ⟨by unfold opp at *; omega, by unfold opp at *; omega⟩))))
/-- What lies within a way and a square has a spot in common. -/
def TQ (W : GP → Prop) (p : Nat → GP) (n : Nat) (x y g : Int) : Prop := W ⟨x, y⟩ ∨ inB x y g (p 0) ∨ ∃ i, i < n ∧ ∃ j, j < 4 ∧ meet (p i) (p (i + 1)) (sqp x y g j) (sqp x y g (j + 1))
/-- One of the four parts has it, too. -/
theorem TQ.part {W : GP → Prop} {p : Nat → GP} {n : Nat} {x y h : Int} (hh : 0 < h) (t : TQ W p n x y (2 * h)) : TQ W p n x y h ∨ TQ W p n (x + h) y h ∨ TQ W p n x (y + h) h ∨ TQ W p n (x + h) (y + h) h := by
  rcases t with t | t | ⟨i, hi, j, hj, t⟩
  · exact .inl (.inl t)
  · unfold inB at t
    by_cases h1 : (p 0).x ≤ x + h
    · by_cases h2 : (p 0).y ≤ y + h
      · exact .inl (.inr (.inl (by unfold inB; omega)))
      · exact .inr (.inr (.inl (.inr (.inl (by unfold inB; omega)))))
    · by_cases h2 : (p 0).y ≤ y + h
      · exact .inr (.inl (.inr (.inl (by unfold inB; omega))))
      · exact .inr (.inr (.inr (.inr (.inl (by unfold inB; omega)))))
  · have hk : j = 0 ∨ j = 1 ∨ j = 2 ∨ j = 3 := by omega
    rcases hk with e | e | e | e <;> subst e
    · rw [sq0 (by omega), sq1 (by omega)] at t
      rcases meet_mid (v := ⟨x + h, y⟩) (by simp only <;> omega) (by simp only <;> omega) t with t | t
      · refine .inl (.inr (.inr ⟨i, hi, 0, by omega, ?_⟩))
        rw [sq0 (by omega), sq1 (by omega)]; exact t
      · refine .inr (.inl (.inr (.inr ⟨i, hi, 0, by omega, ?_⟩)))
        rw [sq0 (by omega), sq1 (by omega), show x + h + h = x + 2 * h by omega]; exact t
    · rw [sq1 (by omega), sq2 (by omega)] at t
      rcases meet_mid (v := ⟨x + 2 * h, y + h⟩) (by simp only <;> omega) (by simp only <;> omega) t with t | t
      · refine .inr (.inl (.inr (.inr ⟨i, hi, 1, by omega, ?_⟩)))
        rw [sq1 (by omega), sq2 (by omega), show x + h + h = x + 2 * h by omega]; exact t
      · refine .inr (.inr (.inr (.inr (.inr ⟨i, hi, 1, by omega, ?_⟩))))
        rw [sq1 (by omega), sq2 (by omega), show x + h + h = x + 2 * h by omega, show y + h + h = y + 2 * h by omega]; exact t
    · rw [sq2 (by omega), sq3 (by omega)] at t
      rcases meet_mid (v := ⟨x + h, y + 2 * h⟩) (by simp only <;> omega) (by simp only <;> omega) t with t | t
      · refine .inr (.inr (.inr (.inr (.inr ⟨i, hi, 2, by omega, ?_⟩))))
        rw [sq2 (by omega), sq3 (by omega), show x + h + h = x + 2 * h by omega, show y + h + h = y + 2 * h by omega]; exact t
      · refine .inr (.inr (.inl (.inr (.inr ⟨i, hi, 2, by omega, ?_⟩))))
        rw [sq2 (by omega), sq3 (by omega), show y + h + h = y + 2 * h by omega]; exact t
    · rw [sq3 (by omega), sq0 (k := 3 + 1) (by omega)] at t
      rcases meet_mid (v := ⟨x, y + h⟩) (by simp only <;> omega) (by simp only <;> omega) t with t | t
      · refine .inr (.inr (.inl (.inr (.inr ⟨i, hi, 3, by omega, ?_⟩))))
        rw [sq3 (by omega), sq0 (k := 3 + 1) (by omega), show y + h + h = y + 2 * h by omega]; exact t
      · refine .inl (.inr (.inr ⟨i, hi, 3, by omega, ?_⟩))
        rw [sq3 (by omega), sq0 (k := 3 + 1) (by omega)]; exact t
end Go.Beacon

/- A square and what a fence has in common with it. No program in sight. -/
set_option linter.unusedVariables false
set_option linter.unusedSimpArgs false
namespace Go.Beacon
open Go Go.Eng

/-- What lies within two fences has a spot in common. -/
def TE (l k : List Spot) (a c : Spot) : Prop := whereE l c ≠ 0 ∨ whereE k a ≠ 0 ∨ ∃ i, i < l.length ∧ ∃ j, j < k.length ∧ meet (pl l i) (pl l (i + 1)) (pl k j) (pl k (j + 1))
open Classical in
theorem touchP {l k : List Spot} (hl : Right l) (hk : Right k) {a c : Spot} (a1 : idx l 0 = some a) (c1 : idx k 0 = some c) : place_touch l k = some (decide (TE l k a c)) := by
  have l1 := hl.lo; have l2 := hl.hi; have k1 := hk.lo; have k2 := hk.hi
  have a2 := idx_mem a1; have c2 := idx_mem c1
  have hB : ((∃ i, 0 ≤ i ∧ i < l.length ∧ ∃ j, 0 ≤ j ∧ j < k.length ∧ meet (pl l i) (pl l (i + 1)) (pl k j) (pl k (j + 1))) → place_edges l (fun y0 y1 => place_touch_1x y0 y1 k) = some true) ∧ ((¬ ∃ i, 0 ≤ i ∧ i < l.length ∧ ∃ j, 0 ≤ j ∧ j < k.length ∧ meet (pl l i) (pl l (i + 1)) (pl k j) (pl k (j + 1))) → place_edges l (fun y0 y1 => place_touch_1x y0 y1 k) = some false) := by
    refine edges_any (l := l) (by omega) _ (fun i => ∃ j, 0 ≤ j ∧ j < k.length ∧ meet (pl l i) (pl l (i + 1)) (pl k j) (pl k (j + 1))) (fun i x y hi h1 h2 h3 h4 => ?_)
    have hin := edges_any (l := k) (by omega) (fun y0 y1 => some (place_touch_1x_1x y0 y1 x y)) (fun j => meet (pl l i) (pl l (i + 1)) (pl k j) (pl k (j + 1))) (fun j u v hj g1 g2 g3 g4 => by
      unfold place_touch_1x_1x
      rw [meets_eq (hl.sb x h3) (hl.sb y h4) (hk.sb u g3) (hk.sb v g4), h1, h2, g1, g2]
      constructor
      · intro h; rw [decide_eq_true h]
      · intro h; rw [decide_eq_false h])
    unfold place_touch_1x
    constructor
    · intro h; rw [hin.1 h]; rfl
    · intro h; rw [hin.2 h]; rfl
  unfold place_touch place_touch_j1
  rw [a1, c1]
  simp only [Option.bind_some]
  rw [where_eq hl (hk.sb c c2), where_eq hk (hl.sb a a2)]
  simp only [Option.bind_some]
  by_cases g1 : whereE l c ≠ 0
  · rw [if_pos g1, decide_eq_true (show TE l k a c from .inl g1)]
  · rw [if_neg g1]
    by_cases g2 : whereE k a ≠ 0
    · rw [if_pos g2, decide_eq_true (show TE l k a c from .inr (.inl g2))]
    · rw [if_neg g2]
      by_cases hm : ∃ i, i < l.length ∧ ∃ j, j < k.length ∧ meet (pl l i) (pl l (i + 1)) (pl k j) (pl k (j + 1))
      · obtain ⟨i, hi, j, hj, m⟩ := hm
        rw [hB.1 ⟨i, by omega, hi, j, by omega, hj, m⟩, decide_eq_true (show TE l k a c from .inr (.inr ⟨i, hi, j, hj, m⟩))]; rfl
      · rw [hB.2 (fun ⟨i, _, hi, j, _, hj, m⟩ => hm ⟨i, hi, j, hj, m⟩), decide_eq_false (show ¬ TE l k a c by rintro (h | h | h); exact g1 h; exact g2 h; exact hm h)]; rfl
open Classical in
theorem meetP {l k : List Spot} (hl : Right l) (hk : Right k) {a c : Spot} (a1 : idx l 0 = some a) (c1 : idx k 0 = some c) : Q_MeetOf l k = some (decide (TE l k a c)) := by
  have l1 := hl.lo; have l2 := hl.hi; have k1 := hk.lo; have k2 := hk.hi
  have a2 := idx_mem a1; have c2 := idx_mem c1
  have hQ := iter_anyP (fun x : Int => Q_MeetOf_b1 l k x) (fun i => ∃ j, 0 ≤ j ∧ j < k.length ∧ meet (pl l i) (pl l (i + 1)) (pl k j) (pl k (j + 1))) true (decide (whereE l c ≠ 0) || decide (whereE k a ≠ 0)) l.length 0 (fun i _ hi => by
    obtain ⟨x, y, e1, e2, e3, e4, e5⟩ := Qedge_at l hi (by omega)
    have w1 : w64 ((i : Int) + 1) = (i : Int) + 1 := by rw [w64_in] <;> omega
    have hin := iter_anyP (fun z : Int => Q_MeetOf_b2 k (i : Int) (x, y) z) (fun j => meet (pl l i) (pl l (i + 1)) (pl k j) (pl k (j + 1))) (.inr true) (.inl ((i : Int) + 1)) k.length 0 (fun j _ hj => by
      obtain ⟨u, v, g1, g2, g3, g4, g5⟩ := Qedge_at k hj (by omega)
      have w2 : w64 ((j : Int) + 1) = (j : Int) + 1 := by rw [w64_in] <;> omega
      show (_ → Q_MeetOf_b2 k (i : Int) (x, y) (j : Int) = _) ∧ (_ → Q_MeetOf_b2 k (i : Int) (x, y) (j : Int) = _)
      rw [Q_MeetOf_b2, if_pos (by omega), g1]
      simp only [Option.bind_some]
      rw [touches_eq (hl.sb x e4) (hl.sb y e5) (hk.sb u g4) (hk.sb v g5), e2, e3, g2, g3, w2]
      constructor
      · intro h; rw [if_pos (decide_eq_true h)]; rfl
      · intro h; rw [if_neg (by simpa using h)]) (by show Q_MeetOf_b2 k (i : Int) (x, y) (k.length : Int) = _; rw [Q_MeetOf_b2, if_neg (by omega), w1]; rfl) (by omega)
    show (_ → Q_MeetOf_b1 l k (i : Int) = _) ∧ (_ → Q_MeetOf_b1 l k (i : Int) = _)
    rw [Q_MeetOf_b1, if_pos (by omega), e1]
    simp only [Option.bind_some]
    unfold Q_MeetOf_l2
    constructor
    · intro h; exact hin.1 h
    · intro h; exact hin.2 h) (by
    show Q_MeetOf_b1 l k (l.length : Int) = _
    rw [Q_MeetOf_b1, if_neg (by omega)]
    unfold Q_MeetOf_k2 Q_MeetOf_j1
    rw [a1, c1]
    simp only [Option.bind_some]
    rw [WhereOf_eq hl.sb (by omega) (hk.sb c c2), WhereOf_eq hk.sb (by omega) (hl.sb a a2)]
    simp only [Option.bind_some]
    by_cases h : whereE l c ≠ 0
    · rw [if_pos h, decide_eq_true h]; rfl
    · rw [if_neg h, decide_eq_false h]; rfl) (by omega)
  unfold Q_MeetOf Q_MeetOf_l1
  by_cases hm : ∃ i, i < l.length ∧ ∃ j, j < k.length ∧ meet (pl l i) (pl l (i + 1)) (pl k j) (pl k (j + 1))
  · obtain ⟨i, hi, j, hj, m⟩ := hm
    rw [show iter (fun x => Q_MeetOf_b1 l k x) 0 = some true from hQ.1 ⟨i, by omega, hi, j, by omega, hj, m⟩, decide_eq_true (show TE l k a c from .inr (.inr ⟨i, hi, j, hj, m⟩))]
  · rw [show iter (fun x => Q_MeetOf_b1 l k x) 0 = some (decide (whereE l c ≠ 0) || decide (whereE k a ≠ 0)) from hQ.2 (fun ⟨i, _, hi, j, _, hj, m⟩ => hm ⟨i, hi, j, hj, m⟩)]
    by_cases g1 : whereE l c ≠ 0
    · rw [decide_eq_true g1, decide_eq_true (show TE l k a c from .inl g1)]; rfl
    · by_cases g2 : whereE k a ≠ 0
      · rw [decide_eq_true g2, decide_eq_true (show TE l k a c from .inr (.inl g2)), decide_eq_false g1]; rfl
      · rw [decide_eq_false g1, decide_eq_false g2, decide_eq_false (show ¬ TE l k a c by rintro (h | h | h); exact g1 h; exact g2 h; exact hm h)]; rfl
/-! squares -/
def sq4 (x y g : Int) : List Spot := [⟨x, y⟩, ⟨x + g, y⟩, ⟨x + g, y + g⟩, ⟨x, y + g⟩]
theorem pl_sq4 (x y g : Int) (k : Nat) : pl (sq4 x y g) k = sqp x y g k := by
  unfold pl
  have hl : (sq4 x y g).length = 4 := rfl
  rw [hl]
  have hk : k % 4 = 0 ∨ k % 4 = 1 ∨ k % 4 = 2 ∨ k % 4 = 3 := by omega
  rcases hk with h | h | h | h
  · rw [h, sq0 h]; rfl
  · rw [h, sq1 h]; rfl
  · rw [h, sq2 h]; rfl
  · rw [h, sq3 h]; rfl
theorem sq4_right {x y g : Int} (hg : 0 < g) (hx : -16384 ≤ x ∧ x + g ≤ 16384) (hy : -16384 ≤ y ∧ y + g ≤ 16384) : Right (sq4 x y g) := by
  refine ⟨by simp [sq4], by simp [sq4], fun s hs => ?_, ?_⟩
  · unfold sq4 at hs
    simp only [List.mem_cons, List.not_mem_nil, or_false] at hs
    unfold SB
    rcases hs with h | h | h | h <;> subst h <;> simp only <;> omega
  · have : pl (sq4 x y g) = sqp x y g := funext (pl_sq4 x y g)
    rw [this]
    exact sq_simple x y hg
theorem whereE_sq {x y g : Int} (hg : 0 < g) (s : Spot) : whereE (sq4 x y g) s ≠ 0 ↔ inB x y g (GS s) := by
  have hp : pl (sq4 x y g) = sqp x y g := funext (pl_sq4 x y g)
  have hl : (sq4 x y g).length = 4 := rfl
  rw [← sq_in x y hg (GS s)]
  unfold whereE
  rw [hp, hl]
  by_cases h1 : ∃ i, i < 4 ∧ onS (sqp x y g i) (sqp x y g (i + 1)) (GS s)
  · rw [if_pos h1]; exact ⟨fun _ => .inl h1, fun _ => by omega⟩
  · rw [if_neg h1]
    by_cases h2 : turns (sqp x y g) 4 (GS s) ≠ 0
    · rw [if_pos h2]; exact ⟨fun _ => .inr h2, fun _ => by omega⟩
    · rw [if_neg h2]; exact ⟨fun h => absurd rfl h, fun h => by rcases h with h | h; exact absurd h h1; exact absurd h h2⟩
/-- A fence and a square. -/
def TS (l : List Spot) (x y g : Int) : Prop := TQ (fun q => whereE l ⟨q.x, q.y⟩ ≠ 0) (pl l) l.length x y g
theorem TE_sq {l : List Spot} {a : Spot} (hl : 0 < l.length) (a1 : idx l 0 = some a) {x y g : Int} (hg : 0 < g) : TE l (sq4 x y g) a ⟨x, y⟩ ↔ TS l x y g := by
  have hp : pl (sq4 x y g) = sqp x y g := funext (pl_sq4 x y g)
  have ha : GS a = pl l 0 := by
    have h := (idx_some a1).2.2
    obtain ⟨hn, hg'⟩ := List.getElem?_eq_some_iff.1 h
    have e : l[0] = a := hg'
    rw [← e]; exact pl_at hl
  unfold TE TS TQ
  rw [hp, whereE_sq hg, ha]
  exact Iff.rfl
theorem TE_comm {l k : List Spot} {a c : Spot} : TE l k a c ↔ TE k l c a := by
  unfold TE
  constructor
  · rintro (h | h | ⟨i, hi, j, hj, m⟩)
    · exact .inr (.inl h)
    · exact .inl h
    · exact .inr (.inr ⟨j, hj, i, hi, meet_comm.1 m⟩)
  · rintro (h | h | ⟨i, hi, j, hj, m⟩)
    · exact .inr (.inl h)
    · exact .inl h
    · exact .inr (.inr ⟨j, hj, i, hi, meet_comm.1 m⟩)
open Classical in
theorem touch_sq {l : List Spot} (hl : Right l) {x y g : Int} (hg : 0 < g) (hx : -16384 ≤ x ∧ x + g ≤ 16384) (hy : -16384 ≤ y ∧ y + g ≤ 16384) : place_touch l (sq4 x y g) = some (decide (TS l x y g)) ∧ Q_MeetOf (sq4 x y g) l = some (decide (TS l x y g)) := by
  have h1 := hl.lo
  obtain ⟨a, a1, a2, _⟩ := idx_lt l (i := 0) (by omega) (by omega)
  have hr := sq4_right hg hx hy
  rw [touchP hl hr a1 rfl, meetP hr hl rfl a1]
  have e1 : decide (TE l (sq4 x y g) a ⟨x, y⟩) = decide (TS l x y g) := decide_eq_decide.2 (TE_sq (by omega) a1 hg)
  have e2 : decide (TE (sq4 x y g) l ⟨x, y⟩ a) = decide (TS l x y g) := decide_eq_decide.2 (TE_comm.trans (TE_sq (by omega) a1 hg))
  rw [e1, e2]
  exact ⟨rfl, rfl⟩
end Go.Beacon

/- Cells of levels: depth first and breadth first. No program in sight. -/
set_option linter.unusedVariables false
set_option linter.unusedSimpArgs false
namespace Go.Beacon
open Go Go.Eng

/-! the names -/
def dgs : List Str := [[48], [49], [50], [51]]
section
variable (T : Str → Bool)
def E1 (key : Str) : List Str := (dgs.map (key ++ ·)).filter T
def EE : Nat → Str → List Str
  | 0, key => [key]
  | m + 1, key => (E1 T key).flatMap (EE m)
def FF : Nat → List Str
  | 0 => [[]]
  | k + 1 => (FF k).flatMap (E1 T)
theorem FF_EE : ∀ m k, FF T (k + m) = (FF T k).flatMap (EE T m)
  | 0, k => by
    show FF T k = (FF T k).flatMap (fun x => [x])
    rw [List.flatMap_singleton']
  | m + 1, k => by
    rw [show k + (m + 1) = (k + 1) + m by omega, FF_EE m (k + 1)]
    show ((FF T k).flatMap (E1 T)).flatMap (EE T m) = (FF T k).flatMap (fun x => (E1 T x).flatMap (EE T m))
    rw [List.flatMap_assoc]
theorem FF_eq (n : Nat) : FF T n = EE T n [] := by
  have := FF_EE T n 0
  rw [Nat.zero_add] at this
  rw [this]
  show [([] : Str)].flatMap (EE T n) = _
  simp
/-- The name of a cell. -/
def kOK (key : Str) : Prop := ∀ c ∈ key, c = 48 ∨ c = 49 ∨ c = 50 ∨ c = 51
theorem kOK_snoc {key c : Str} (h : kOK key) (hc : c ∈ dgs) : kOK (key ++ c) ∧ (key ++ c).length = key.length + 1 := by
  unfold dgs at hc
  simp only [List.mem_cons, List.not_mem_nil, or_false] at hc
  refine ⟨fun x hx => ?_, by rcases hc with e | e | e | e <;> subst e <;> simp⟩
  rcases List.mem_append.1 hx with e | e
  · exact h x e
  · rcases hc with e' | e' | e' | e' <;> subst e' <;> simp at e <;> simp [e]
theorem E1_mem {key x : Str} (h : kOK key) (hx : x ∈ E1 T key) : kOK x ∧ x.length = key.length + 1 ∧ T x = true := by
  unfold E1 at hx
  obtain ⟨h1, h2⟩ := List.mem_filter.1 hx
  obtain ⟨c, hc, rfl⟩ := List.mem_map.1 h1
  have := kOK_snoc h hc
  exact ⟨this.1, this.2, h2⟩
theorem FF_mem (h0 : T [] = true) : ∀ k, ∀ x ∈ FF T k, kOK x ∧ x.length = k ∧ T x = true
  | 0, x, hx => by
    have : x = [] := by simpa [FF] using hx
    subst this
    exact ⟨fun c hc => by simp at hc, rfl, h0⟩
  | k + 1, x, hx => by
    obtain ⟨y, hy, hxy⟩ := List.mem_flatMap.1 hx
    obtain ⟨a, b, _⟩ := FF_mem h0 k y hy
    obtain ⟨c, d, e⟩ := E1_mem T a hxy
    exact ⟨c, by omega, e⟩
theorem E1_len (key : Str) : (E1 T key).length ≤ 4 := by
  unfold E1
  have := List.length_filter_le T (dgs.map (key ++ ·))
  have h4 : (dgs.map (key ++ ·)).length = 4 := rfl
  omega
theorem flat_ge {α β : Type} {f : α → List β} : ∀ l : List α, (∀ x ∈ l, f x ≠ []) → l.length ≤ (l.flatMap f).length
  | [], _ => by simp
  | x :: l, h => by
    have h1 := flat_ge l (fun y hy => h y (List.mem_cons_of_mem _ hy))
    have h2 := List.length_pos_iff.2 (h x (by simp))
    rw [List.flatMap_cons, List.length_append, List.length_cons]; omega
variable (hT : ∀ key, kOK key → key.length < 15 → T key = true → E1 T key ≠ [])
include hT
theorem FF_grow (h0 : T [] = true) {k : Nat} (hk : k < 15) : (FF T k).length ≤ (FF T (k + 1)).length :=
  flat_ge _ fun x hx => by
    obtain ⟨a, b, c⟩ := FF_mem T h0 k x hx
    exact hT x a (by omega) c
theorem FF_mono (h0 : T [] = true) {k : Nat} : ∀ m, k + m ≤ 15 → (FF T k).length ≤ (FF T (k + m)).length
  | 0, _ => Nat.le_refl _
  | m + 1, h => Nat.le_trans (FF_mono h0 m (by omega)) (FF_grow T hT h0 (by omega))
end
/-- What a search that stops behind a thousand hands back. -/
def Dfs (out d r : List Str) : Prop := (out.length + d.length ≤ 1000 → r = out ++ d) ∧ (1000 < out.length + d.length → 1000 < r.length) ∧ (out.length ≤ 1001 → r.length ≤ 1001)
theorem Dfs.nil (out : List Str) : Dfs out [] out := ⟨fun _ => by simp, fun h => by simpa using h, fun h => h⟩
theorem Dfs.full {out d : List Str} (h : 1000 < out.length) : Dfs out d out := ⟨fun h' => by omega, fun _ => h, fun h => h⟩
theorem Dfs.one {out : List Str} (k : Str) (h : out.length ≤ 1000) : Dfs out [k] (out ++ [k]) := ⟨fun _ => rfl, fun h => by simpa using h, fun _ => by simp; omega⟩
theorem Dfs.trans {out d1 r1 d2 r2 : List Str} (h1 : Dfs out d1 r1) (h2 : Dfs r1 d2 r2) : Dfs out (d1 ++ d2) r2 := by
  obtain ⟨a1, a2, a3⟩ := h1
  obtain ⟨b1, b2, b3⟩ := h2
  refine ⟨fun h => ?_, fun h => ?_, fun h => b3 (a3 h)⟩
  · rw [List.length_append] at h
    have e1 := a1 (by omega)
    rw [b1 (by rw [e1, List.length_append]; omega), e1, List.append_assoc]
  · rw [List.length_append] at h
    by_cases hc : out.length + d1.length ≤ 1000
    · have e1 := a1 hc
      exact b2 (by rw [e1, List.length_append]; omega)
    · have := a2 (by omega)
      exact b2 (by omega)
/-! the boxes -/
def bstep (s : Int × Int × Int) (c : UInt8) : Int × Int × Int := (s.1 + ((c.toNat : Int) - 48) % 2 * (s.2.2 / 2), s.2.1 + ((c.toNat : Int) - 48) / 2 * (s.2.2 / 2), s.2.2 / 2)
def box (key : Str) : Int × Int × Int := key.foldl bstep (-16384, -16384, 32768)
/-- The side of a cell of a level. -/
def gN (n : Nat) : Int := 2 ^ (15 - n)
theorem gN_half {n : Nat} (h : n < 15) : gN n = 2 * gN (n + 1) := by
  unfold gN
  rw [show 15 - n = (15 - (n + 1)) + 1 by omega, Int.pow_succ]; omega
theorem gN_pos (n : Nat) : 0 < gN n := by
  unfold gN
  exact Int.pow_pos (by omega)
structure BoxOK (s : Int × Int × Int) (n : Nat) : Prop where
  g : s.2.2 = gN n
  x : -16384 ≤ s.1 ∧ s.1 + s.2.2 ≤ 16384
  y : -16384 ≤ s.2.1 ∧ s.2.1 + s.2.2 ≤ 16384
theorem BoxOK.pos {s : Int × Int × Int} {n : Nat} (h : BoxOK s n) : 0 < s.2.2 ∧ s.2.2 ≤ 32768 := by
  have := gN_pos n
  have h1 := h.g; have h2 := h.x
  omega
theorem dig {c : UInt8} (h : c = 48 ∨ c = 49 ∨ c = 50 ∨ c = 51) : 0 ≤ (c.toNat : Int) - 48 ∧ (c.toNat : Int) - 48 ≤ 3 := by
  rcases h with h | h | h | h <;> subst h <;> decide
theorem bstep_ok {s : Int × Int × Int} {n : Nat} (h : BoxOK s n) (hn : n < 15) {c : UInt8} (hc : c = 48 ∨ c = 49 ∨ c = 50 ∨ c = 51) : BoxOK (bstep s c) (n + 1) := by
  have hg := gN_half hn
  have hp := gN_pos (n + 1)
  have h1 := h.g
  have hh : s.2.2 / 2 = gN (n + 1) := by omega
  have hx := h.x; have hy := h.y
  rw [h1] at hx hy
  unfold bstep
  rw [hh]
  refine ⟨rfl, ?_, ?_⟩
  · simp only
    generalize gN (n + 1) = H at *
    rcases hc with e | e | e | e <;> subst e
    · rw [show (((48 : UInt8).toNat : Int) - 48) % 2 = 0 by decide]; omega
    · rw [show (((49 : UInt8).toNat : Int) - 48) % 2 = 1 by decide]; omega
    · rw [show (((50 : UInt8).toNat : Int) - 48) % 2 = 0 by decide]; omega
    · rw [show (((51 : UInt8).toNat : Int) - 48) % 2 = 1 by decide]; omega
  · simp only
    generalize gN (n + 1) = H at *
    rcases hc with e | e | e | e <;> subst e
    · rw [show (((48 : UInt8).toNat : Int) - 48) / 2 = 0 by decide]; omega
    · rw [show (((49 : UInt8).toNat : Int) - 48) / 2 = 0 by decide]; omega
    · rw [show (((50 : UInt8).toNat : Int) - 48) / 2 = 1 by decide]; omega
    · rw [show (((51 : UInt8).toNat : Int) - 48) / 2 = 1 by decide]; omega
theorem fold_ok : ∀ (key : Str) (s : Int × Int × Int) (n : Nat), kOK key → n + key.length ≤ 15 → BoxOK s n → BoxOK (key.foldl bstep s) (n + key.length)
  | [], s, n, _, _, h => h
  | c :: key, s, n, hk, hl, h => by
    rw [List.length_cons] at hl ⊢
    have := fold_ok key (bstep s c) (n + 1) (fun x hx => hk x (List.mem_cons_of_mem _ hx)) (by omega) (bstep_ok h (by omega) (hk c (by simp)))
    rw [show n + (key.length + 1) = n + 1 + key.length by omega]
    exact this
theorem box0 : BoxOK (-16384, -16384, 32768) 0 := ⟨by simp only; unfold gN; decide, by simp only; omega, by simp only; omega⟩
theorem box_ok {key : Str} (h : kOK key) (hl : key.length ≤ 15) : BoxOK (box key) key.length := by
  have := fold_ok key _ 0 h (by omega) box0
  rw [Nat.zero_add] at this; exact this
theorem box_snoc (key : Str) (c : UInt8) : box (key ++ [c]) = bstep (box key) c := by unfold box; rw [List.foldl_append]; rfl
theorem w8 {c : UInt8} (hc : c = 48 ∨ c = 49 ∨ c = 50 ∨ c = 51) : IntKind.u8.wrap ((c.toNat : Int) - 48) = (c.toNat : Int) - 48 := by
  rcases hc with h | h | h | h <;> subst h <;> decide
theorem dig_cases {c : UInt8} (hc : c = 48 ∨ c = 49 ∨ c = 50 ∨ c = 51) : (((c.toNat : Int) - 48) % 2 = 0 ∧ ((c.toNat : Int) - 48) / 2 = 0 ∧ (c.toNat : Int) - 48 = 0) ∨ (((c.toNat : Int) - 48) % 2 = 1 ∧ ((c.toNat : Int) - 48) / 2 = 0 ∧ (c.toNat : Int) - 48 = 1) ∨ (((c.toNat : Int) - 48) % 2 = 0 ∧ ((c.toNat : Int) - 48) / 2 = 1 ∧ (c.toNat : Int) - 48 = 2) ∨ (((c.toNat : Int) - 48) % 2 = 1 ∧ ((c.toNat : Int) - 48) / 2 = 1 ∧ (c.toNat : Int) - 48 = 3) := by
  rcases hc with h | h | h | h <;> subst h <;> decide
theorem bstep_x {s : Int × Int × Int} {n : Nat} (h : BoxOK s n) (hn : n < 15) {c : UInt8} (hc : c = 48 ∨ c = 49 ∨ c = 50 ∨ c = 51) : w64 (s.1 + w64 ((w64 (IntKind.u8.wrap ((c.toNat : Int) - 48))).tmod 2 * w64 (s.2.2.tdiv 2))) = (bstep s c).1 ∧ w64 (s.2.1 + w64 (w64 ((w64 (IntKind.u8.wrap ((c.toNat : Int) - 48))).tdiv 2) * w64 (s.2.2.tdiv 2))) = (bstep s c).2.1 ∧ w64 (s.2.2.tdiv 2) = (bstep s c).2.2 := by
  have hp := h.pos
  have hb := bstep_ok h hn hc
  have hx := h.x; have hy := h.y
  have hbx := hb.x; have hby := hb.y; have hbp := hb.pos
  have hd := dig hc
  have e1 : s.2.2.tdiv 2 = s.2.2 / 2 := Int.tdiv_eq_ediv_of_nonneg (by omega)
  have e2 : ((c.toNat : Int) - 48).tmod 2 = ((c.toNat : Int) - 48) % 2 := Int.tmod_eq_emod_of_nonneg (by omega)
  have e3 : ((c.toNat : Int) - 48).tdiv 2 = ((c.toNat : Int) - 48) / 2 := Int.tdiv_eq_ediv_of_nonneg (by omega)
  rw [w8 hc, w64_in (x := (c.toNat : Int) - 48) (by omega) (by omega), e1, e2, e3, w64_in (x := s.2.2 / 2) (by omega) (by omega), w64_in (x := ((c.toNat : Int) - 48) / 2) (by omega) (by omega)]
  unfold bstep at hbx hby hbp ⊢
  simp only at hbx hby hbp ⊢
  refine ⟨?_, ?_, trivial⟩
  · rw [w64_in (x := ((c.toNat : Int) - 48) % 2 * (s.2.2 / 2)) (by omega) (by omega), w64_in (by omega) (by omega)]
  · rw [w64_in (x := ((c.toNat : Int) - 48) / 2 * (s.2.2 / 2)) (by omega) (by omega), w64_in (by omega) (by omega)]
theorem cellBox_l1 (key : Str) (hk : kOK key) (hl : key.length ≤ 15) : ∀ (m i : Nat) (s : Int × Int × Int), i + m = key.length → BoxOK s i → place_cellBox_l1 key s.1 s.2.1 s.2.2 i = some (⟨((key.drop i).foldl bstep s).1, ((key.drop i).foldl bstep s).2.1⟩, ((key.drop i).foldl bstep s).2.2) := by
  intro m
  induction m with
  | zero =>
    intro i s hi hs
    unfold place_cellBox_l1
    rw [iter_eq, place_cellBox_b1, if_neg (by simp only; omega), map_inr_after, List.drop_of_length_le (by omega)]
    rfl
  | succ m ih =>
    intro i s hi hs
    obtain ⟨c, hc, hm, hd⟩ := idx_lt key (i := (i : Int)) (by omega) (by omega)
    rw [show ((i : Int)).toNat = i by omega, show ((i : Int) + 1).toNat = i + 1 by omega] at hd
    have w1 : w64 ((i : Int) + 1) = ((i + 1 : Nat) : Int) := by rw [w64_in] <;> omega
    obtain ⟨x1, x2, x3⟩ := bstep_x hs (by omega) (hk c hm)
    have ih' := ih (i + 1) (bstep s c) (by omega) (bstep_ok hs (by omega) (hk c hm))
    unfold place_cellBox_l1 at ih' ⊢
    rw [iter_eq, place_cellBox_b1, if_pos (by simp only; omega)]
    simp only [hc, Option.bind_some]
    rw [x1, x2, x3, w1, after_inl, hd]
    exact ih'
theorem cellBox_eq {key : Str} (hk : kOK key) (hl : key.length ≤ 15) : place_cellBox key = some (⟨(box key).1, (box key).2.1⟩, (box key).2.2) := by
  unfold place_cellBox
  exact cellBox_l1 key hk hl key.length 0 (-16384, -16384, 32768) (by omega) box0
theorem QBox_l1 (key : Str) (hk : kOK key) (hl : key.length ≤ 15) : ∀ (m i : Nat) (s : Int × Int × Int), i + m = key.length → BoxOK s i → Q_CellBoxOf_l1 key s.1 s.2.1 s.2.2 i = some (⟨((key.drop i).foldl bstep s).1, ((key.drop i).foldl bstep s).2.1⟩, ((key.drop i).foldl bstep s).2.2) := by
  have hbl : (bytesI key).length = key.length := by unfold bytesI; simp
  intro m
  induction m with
  | zero =>
    intro i s hi hs
    unfold Q_CellBoxOf_l1
    rw [iter_eq, Q_CellBoxOf_b1, if_neg (by simp only; omega), map_inr_after, List.drop_of_length_le (by omega)]
    rfl
  | succ m ih =>
    intro i s hi hs
    obtain ⟨c, hc, hm, hd⟩ := idx_lt key (i := (i : Int)) (by omega) (by omega)
    have hcb : idx (bytesI key) (i : Int) = some (c.toNat : Int) := by
      unfold idx at hc ⊢
      rw [if_pos (by omega)] at hc ⊢
      unfold bytesI
      rw [List.getElem?_map, hc]; rfl
    rw [show ((i : Int)).toNat = i by omega, show ((i : Int) + 1).toNat = i + 1 by omega] at hd
    have w1 : w64 ((i : Int) + 1) = ((i + 1 : Nat) : Int) := by rw [w64_in] <;> omega
    have hcc := hk c hm
    obtain ⟨_, _, x3⟩ := bstep_x hs (by omega) hcc
    have ih' := ih (i + 1) (bstep s c) (by omega) (bstep_ok hs (by omega) hcc)
    have hp := hs.pos
    have hb := bstep_ok hs (by omega) hcc
    have hbx := hb.x; have hby := hb.y; have hbp := hb.pos
    have hx := hs.x; have hy := hs.y
    have hd2 := dig_cases hcc
    have e0 : w64 (s.2.2.tdiv 2) = s.2.2 / 2 := by rw [Int.tdiv_eq_ediv_of_nonneg (by omega), w64_in (by omega) (by omega)]
    unfold Q_CellBoxOf_l1 at ih' ⊢
    rw [iter_eq, Q_CellBoxOf_b1, if_pos (by simp only; omega)]
    simp only [hcb, Option.bind_some]
    rw [e0, w8 hcc]
    have hh1 : 1 ≤ s.2.2 / 2 := by
      have := hb.pos
      unfold bstep at this
      simp only at this
      omega
    have er : rem (w64 (s.2.2 / 2 * w64 ((c.toNat : Int) - 48))) (w64 (2 * (s.2.2 / 2))) = some (((c.toNat : Int) - 48) % 2 * (s.2.2 / 2)) := by
      rw [w64_in (x := (c.toNat : Int) - 48) (by omega) (by omega), w64_in (x := 2 * (s.2.2 / 2)) (by omega) (by omega)]
      have hH : s.2.2 / 2 ≤ 16384 := by omega
      generalize s.2.2 / 2 = H at *
      have key : ∀ v : Int, v = 0 ∨ v = 1 ∨ v = 2 ∨ v = 3 → (H * v).tmod (2 * H) = v % 2 * H := by
        intro v hv
        rcases hv with e | e | e | e <;> subst e
        · simp
        · rw [Int.mul_one, Int.tmod_eq_emod_of_nonneg (by omega), Int.emod_eq_of_lt (by omega) (by omega)]; omega
        · rw [Int.tmod_eq_emod_of_nonneg (by omega), show H * 2 = 2 * H by omega, Int.emod_self]; omega
        · rw [Int.tmod_eq_emod_of_nonneg (by omega), show H * 3 = H + 2 * H * 1 by omega, Int.add_mul_emod_self_left, Int.emod_eq_of_lt (by omega) (by omega)]; omega
      have hv : (c.toNat : Int) - 48 = 0 ∨ (c.toNat : Int) - 48 = 1 ∨ (c.toNat : Int) - 48 = 2 ∨ (c.toNat : Int) - 48 = 3 := by omega
      have hb2 : -100000 ≤ H * ((c.toNat : Int) - 48) ∧ H * ((c.toNat : Int) - 48) ≤ 100000 := by
        rcases hv with e | e | e | e <;> rw [e] <;> omega
      rw [w64_in (x := H * ((c.toNat : Int) - 48)) (by omega) (by omega)]
      unfold rem
      rw [if_neg (by omega), key _ hv]
    rw [er]
    simp only [Option.bind_some]
    have hx1 : w64 (s.1 + ((c.toNat : Int) - 48) % 2 * (s.2.2 / 2)) = (bstep s c).1 := by
      unfold bstep at hbx hbp ⊢
      simp only at hbx hbp ⊢
      rw [w64_in (by omega) (by omega)]
    have hfin : ∀ v : Int, v = (bstep s c).2.1 → (Q_CellBoxOf_j1 s.1 s.2.2 (i : Int) (((c.toNat : Int) - 48) % 2 * (s.2.2 / 2)) v).bind (after (iter fun x : Int × Int × Int × Int => Q_CellBoxOf_b1 key x.1 x.2.1 x.2.2.1 x.2.2.2)) = some (⟨((key.drop i).foldl bstep s).1, ((key.drop i).foldl bstep s).2.1⟩, ((key.drop i).foldl bstep s).2.2) := by
      intro v hv
      unfold Q_CellBoxOf_j1
      rw [hx1, hv, x3, w1]
      simp only [Option.bind_some, after_inl]
      rw [hd]
      exact ih'
    split
    · refine hfin _ ?_
      unfold bstep at hby hbp ⊢
      simp only at hby hbp ⊢
      have : ((c.toNat : Int) - 48) / 2 = 1 := by omega
      rw [this] at hby ⊢
      rw [w64_in (by omega) (by omega), Int.one_mul]
    · refine hfin _ ?_
      unfold bstep
      simp only
      have : ((c.toNat : Int) - 48) / 2 = 0 := by omega
      rw [this]; omega
theorem QBox_eq {key : Str} (hk : kOK key) (hl : key.length ≤ 15) : Q_CellBoxOf key = some (⟨(box key).1, (box key).2.1⟩, (box key).2.2) := by
  unfold Q_CellBoxOf
  exact QBox_l1 key hk hl key.length 0 (-16384, -16384, 32768) (by omega) box0
end Go.Beacon

/- Streams, in the form that is stepped by one text: what can still be drawn is counted down. No program in sight. -/
set_option linter.unusedVariables false
set_option linter.unusedSimpArgs false
namespace Go.Beacon
open Go Go.Eng

theorem Flip_k {s : Stm} {n K : Int} (hs : SOk s K) (hK : 1 ≤ K) (h1 : 1 ≤ n) (h2 : n ≤ 4611686018427387904) : Gen (Stream_Flip s n) (K - 1) (fun _ => True) :=
  Flip_ok (hs.less (by omega)) h1 h2 (by omega)
theorem Pick_k {s : Stm} {l : List Int} {K : Int} (hs : SOk s K) (hK : 1 ≤ K) (h1 : l ≠ []) (h2 : l.length ≤ 1000) : Gen (Stream_Pick s l) (K - 1) (fun v => v ∈ l) :=
  Pick_ok (hs.less (by omega)) h1 h2 (by omega)
theorem Range_k {s : Stm} {a b K : Int} (hs : SOk s K) (hK : 1 ≤ K) (hab : a ≤ b) (ha : -1152921504606846976 ≤ a) (hb : b ≤ 1152921504606846976) : Gen (Stream_Range s a b) (K - 1) (fun v => a ≤ v ∧ v ≤ b) :=
  Range_ok (hs.less (by omega)) hab ha hb (by omega)
theorem Some_k {s : Stm} {l : List Str} {K : Int} (hs : SOk s K) (hK : 1 ≤ K) (h1 : l ≠ []) (h2 : l.length ≤ 1000) : Gen (Stream_Some s l) (K - 1) (fun v => v ∈ l) :=
  Some_ok (hs.less (by omega)) h1 h2 (by omega)
end Go.Beacon

/- Plain functions that end, and what their results are like: one lemma for each step. No program in sight. -/
set_option linter.unusedVariables false
set_option linter.unusedSimpArgs false
namespace Go.Beacon
open Go Go.Eng

/-- It ends, and its result is so. -/
def Ok {α : Type} (m : Option α) (Q : α → Prop) : Prop := ∃ r, m = some r ∧ Q r
theorem Ok.ret {α : Type} {v : α} {Q : α → Prop} (h : Q v) : Ok (some v) Q := ⟨v, rfl, h⟩
theorem Ok.mono {α : Type} {m : Option α} {P Q : α → Prop} (h : Ok m P) (hp : ∀ v, P v → Q v) : Ok m Q := by
  obtain ⟨r, h1, h2⟩ := h; exact ⟨r, h1, hp r h2⟩
theorem Ok.bind {α β : Type} {m : Option α} {f : α → Option β} {P : α → Prop} {Q : β → Prop} (h : Ok m P) (hf : ∀ v, P v → Ok (f v) Q) : Ok (m.bind f) Q := by
  obtain ⟨r, rfl, h2⟩ := h; exact hf r h2
theorem Ok.is {α β : Type} {m : Option α} {v : α} {f : α → Option β} {Q : β → Prop} (h : m = some v) (hf : Ok (f v) Q) : Ok (m.bind f) Q := by rw [h]; exact hf
theorem Ok.inr {α β : Type} {m : Option β} {Q : α ⊕ β → Prop} (h : Ok m (fun r => Q (.inr r))) : Ok (Option.map .inr m) Q := by
  obtain ⟨r, rfl, h2⟩ := h; exact ⟨_, rfl, h2⟩
theorem Ok.gen {α β : Type} {m : Option (α × Stm)} {k : Int} {P : α → Prop} {f : α × Stm → Option β} {Q : β → Prop} (h : Gen m k P) (hf : ∀ v s', P v → SOk s' k → Ok (f (v, s')) Q) : Ok (m.bind f) Q := by
  obtain ⟨v, s', rfl, h1, h2⟩ := h; exact hf v s' h1 h2
theorem Gen.of {α : Type} {m : Option (α × Stm)} {k : Int} {P : α → Prop} (h : Ok m (fun r => P r.1 ∧ SOk r.2 k)) : Gen m k P := by
  obtain ⟨⟨v, s⟩, h1, h2, h3⟩ := h; exact ⟨v, s, h1, h2, h3⟩
theorem Ok.of {α : Type} {m : Option (α × Stm)} {k : Int} {P : α → Prop} (h : Gen m k P) : Ok m (fun r => P r.1 ∧ SOk r.2 k) := by
  obtain ⟨v, s, h1, h2, h3⟩ := h; exact ⟨(v, s), h1, h2, h3⟩
theorem Ok.idx {α β : Type} {xs : List α} {i : Int} {f : α → Option β} {Q : β → Prop} (h0 : 0 ≤ i) (h1 : i < xs.length) (hf : ∀ x, idx xs i = some x → x ∈ xs → Ok (f x) Q) : Ok ((idx xs i).bind f) Q := by
  obtain ⟨x, hx, hm, _⟩ := idx_lt xs h0 h1
  rw [hx]; exact hf x hx hm
theorem Ok.app {α β : Type} {xs ys : List α} {f : List α → Option β} {Q : β → Prop} (h : xs.length + ys.length ≤ 1000000000) (hf : Ok (f (xs ++ ys)) Q) : Ok ((app xs ys).bind f) Q := by
  rw [app_le h]; exact hf
theorem Ok.slc {α β : Type} {xs : List α} {a b : Int} {f : List α → Option β} {Q : β → Prop} (h0 : 0 ≤ a) (h1 : a ≤ b) (h2 : b ≤ xs.length) (hf : ∀ ys : List α, ys = (xs.drop a.toNat).take (b.toNat - a.toNat) → (ys.length : Int) = b - a → Ok (f ys) Q) : Ok ((slc xs a b).bind f) Q := by
  rw [slc_in h0 h1 h2]; exact hf _ rfl (by simp; omega)
theorem cat_le {a b : Str} (h : a.length + b.length ≤ 9223372036854775807) : catO a b = some (a ++ b) := by unfold catO; rw [if_pos h]
theorem Ok.cat {β : Type} {a b : Str} {f : Str → Option β} {Q : β → Prop} (h : a.length + b.length ≤ 9223372036854775807) (hf : Ok (f (a ++ b)) Q) : Ok ((catO a b).bind f) Q := by
  rw [cat_le h]; exact hf
/-- What a round of a loop may tell: it keeps something and makes a number smaller, or it is the last. -/
abbrev Stp {S A : Type} (m : S → Nat) (Inv : S → Prop) (R : A → Prop) (s : S) : S ⊕ A → Prop
  | .inl s' => Inv s' ∧ m s' < m s
  | .inr a => R a
theorem Ok.iter {S A : Type} {f : S → Option (S ⊕ A)} {R : A → Prop} (m : S → Nat) (Inv : S → Prop)
    (h : ∀ s, Inv s → Ok (f s) (Stp m Inv R s)) (s : S) (hs : Inv s) : Ok (iter f s) R := by
  refine iter_inv f m Inv R (fun s hi => ?_) s hs
  obtain ⟨r, h1, h2⟩ := h s hi
  cases r with
  | inl s' => exact .inl ⟨s', h1, h2.1, h2.2⟩
  | inr a => exact .inr ⟨a, h1, h2⟩
/-- A round of a loop over the places of a list. -/
abbrev Rng {A : Type} (N : Nat) (R : A → Prop) (i : Int) : Int ⊕ A → Prop
  | .inl j => j = i + 1 ∧ i < N
  | .inr a => R a
theorem Ok.range {A : Type} {f : Int → Option (Int ⊕ A)} {R : A → Prop} (N : Nat) (h : ∀ i : Int, 0 ≤ i → i ≤ N → Ok (f i) (Rng N R i)) : Ok (Eng.iter f 0) R := by
  refine Ok.iter (fun i : Int => N + 1 - i.toNat) (fun i : Int => 0 ≤ i ∧ i ≤ N) (fun i hi => ?_) 0 ⟨by omega, by omega⟩
  refine (h i hi.1 hi.2).mono (fun r hr => ?_)
  cases r with
  | inl j => simp only [Rng, Stp] at hr ⊢; omega
  | inr a => exact hr
end Go.Beacon

/- Cells: the program's search and the reference's levels. No program in sight. -/
set_option linter.unusedVariables false
set_option linter.unusedSimpArgs false
namespace Go.Beacon
open Go Go.Eng

/-- Does a cell have a spot in common with a fence? -/
noncomputable def TT (l : List Spot) (key : Str) : Bool := open Classical in decide (TS l (box key).1 (box key).2.1 (box key).2.2)
open Classical in
theorem TT_part {l : List Spot} {key : Str} (hk : kOK key) (hl : key.length < 15) (h : TT l key = true) : E1 (TT l) key ≠ [] := by
  have hb := box_ok hk (by omega)
  have hg := hb.g
  have hg2 := gN_half hl
  have hp := gN_pos (key.length + 1)
  have hh : (box key).2.2 / 2 = gN (key.length + 1) := by omega
  have t : TS l (box key).1 (box key).2.1 (box key).2.2 := by unfold TT at h; simpa using h
  rw [hg, hg2] at t
  have hpt := TQ.part hp t
  have mem : ∀ c : Str, c ∈ dgs → TT l (key ++ c) = true → E1 (TT l) key ≠ [] := fun c hc ht => List.ne_nil_of_mem (List.mem_filter.2 ⟨List.mem_map.2 ⟨c, hc, rfl⟩, ht⟩)
  have sp : ∀ (c : UInt8) (bx by' : Int), ((c.toNat : Int) - 48) % 2 = bx → ((c.toNat : Int) - 48) / 2 = by' → box (key ++ [c]) = ((box key).1 + bx * gN (key.length + 1), (box key).2.1 + by' * gN (key.length + 1), gN (key.length + 1)) := by
    intro c bx by' e1 e2
    rw [box_snoc]
    unfold bstep
    rw [hh, e1, e2]
  rcases hpt with q | q | q | q
  · refine mem [48] (by simp [dgs]) ?_
    unfold TT
    rw [sp 48 0 0 (by decide) (by decide), Int.zero_mul, Int.add_zero, Int.add_zero]
    exact decide_eq_true q
  · refine mem [49] (by simp [dgs]) ?_
    unfold TT
    rw [sp 49 1 0 (by decide) (by decide), Int.zero_mul, Int.one_mul, Int.add_zero]
    exact decide_eq_true q
  · refine mem [50] (by simp [dgs]) ?_
    unfold TT
    rw [sp 50 0 1 (by decide) (by decide), Int.zero_mul, Int.one_mul, Int.add_zero]
    exact decide_eq_true q
  · refine mem [51] (by simp [dgs]) ?_
    unfold TT
    rw [sp 51 1 1 (by decide) (by decide), Int.one_mul]
    exact decide_eq_true q
open Classical in
theorem touch_key {l : List Spot} (hr : Right l) {key : Str} (hk : kOK key) (hl : key.length ≤ 15) : place_touch l [⟨(box key).1, (box key).2.1⟩, ⟨w64 ((box key).1 + (box key).2.2), (box key).2.1⟩, ⟨w64 ((box key).1 + (box key).2.2), w64 ((box key).2.1 + (box key).2.2)⟩, ⟨(box key).1, w64 ((box key).2.1 + (box key).2.2)⟩] = some (TT l key) ∧ Q_MeetOf [⟨(box key).1, (box key).2.1⟩, ⟨w64 ((box key).1 + (box key).2.2), (box key).2.1⟩, ⟨w64 ((box key).1 + (box key).2.2), w64 ((box key).2.1 + (box key).2.2)⟩, ⟨(box key).1, w64 ((box key).2.1 + (box key).2.2)⟩] l = some (TT l key) := by
  have hb := box_ok hk hl
  have hx := hb.x; have hy := hb.y; have hp := hb.pos
  rw [w64_in (x := (box key).1 + (box key).2.2) (by omega) (by omega), w64_in (x := (box key).2.1 + (box key).2.2) (by omega) (by omega)]
  exact touch_sq hr hp.1 hx hy
theorem flat_filter {α β : Type} (T : α → Bool) (g : Str → α) (h : α → List β) : ∀ L : List Str, ((L.map g).filter T).flatMap h = L.flatMap fun c => if T (g c) = true then h (g c) else []
  | [] => rfl
  | c :: L => by
    rw [List.map_cons, List.filter_cons, List.flatMap_cons, ← flat_filter T g h L]
    split
    · rw [List.flatMap_cons]
    · rfl
/-! depth first -/
theorem four_loop (b : List Str → Int → Option ((List Str × Int) ⊕ List Str)) (sf : Str → List Str → Option (List Str)) (key : Str) (hkl : key.length ≤ 100)
    (hb : ∀ X n, b X n = if n < ([([48] : Str), ([49] : Str), ([50] : Str), ([51] : Str)].length : Int) then (idx [([48] : Str), ([49] : Str), ([50] : Str), ([51] : Str)] n).bind fun v => (catO key v).bind fun q => (sf q X).bind fun r => some (.inl (r, w64 (n + 1))) else Option.map .inr (some X))
    (d : Str → List Str) (hsf : ∀ c ∈ dgs, ∀ X : List Str, X.length ≤ 1001 → ∃ r, sf (key ++ c) X = some r ∧ Dfs X (d c) r) :
    ∀ (m j : Nat) (X : List Str), j + m = 4 → X.length ≤ 1001 → ∃ r, iter (fun x : List Str × Int => b x.1 x.2) (X, (j : Int)) = some r ∧ Dfs X ((dgs.drop j).flatMap d) r := by
  intro m
  induction m with
  | zero =>
    intro j X hj hX
    obtain rfl : j = 4 := by omega
    refine ⟨X, ?_, Dfs.nil X⟩
    rw [iter_eq]
    simp only
    rw [hb, if_neg (by simp), map_inr_after]
  | succ m ih =>
    intro j X hj hX
    obtain ⟨c, hc, hm, hd⟩ := idx_lt dgs (i := (j : Int)) (by omega) (by show (j : Int) < 4; omega)
    rw [show ((j : Int)).toNat = j by omega, show ((j : Int) + 1).toNat = j + 1 by omega] at hd
    have w1 : w64 ((j : Int) + 1) = ((j + 1 : Nat) : Int) := by rw [w64_in] <;> omega
    obtain ⟨r, r1, r2⟩ := hsf c hm X hX
    have hcl : c.length = 1 := by
      unfold dgs at hm
      simp only [List.mem_cons, List.not_mem_nil, or_false] at hm
      rcases hm with e | e | e | e <;> subst e <;> rfl
    obtain ⟨r', s1, s2⟩ := ih (j + 1) r (by omega) (r2.2.2 hX)
    refine ⟨r', ?_, ?_⟩
    · rw [iter_eq]
      simp only
      rw [hb, if_pos (by show (j : Int) < 4; omega), show idx [([48] : Str), ([49] : Str), ([50] : Str), ([51] : Str)] (j : Int) = some c from hc]
      simp only [Option.bind_some]
      rw [cat_le (by omega)]
      simp only [Option.bind_some]
      rw [r1]
      simp only [Option.bind_some]
      rw [w1, after_inl]
      exact s1
    · rw [hd, List.flatMap_cons]
      exact r2.trans s2
theorem EE_succ (T : Str → Bool) (m : Nat) (key : Str) : EE T (m + 1) key = (dgs.drop 0).flatMap fun c => if T (key ++ c) = true then EE T m (key ++ c) else [] :=
  flat_filter T (key ++ ·) (EE T m) dgs
theorem cells_r {l : List Spot} (hr : Right l) {lv : Nat} (hlv : lv ≤ 15) : ∀ (m f : Nat) (key : Str) (out : List Str), m < f → kOK key → key.length + m = lv → out.length ≤ 1001 → ∃ r, place_cells_r f l key (lv : Int) out = some r ∧ Dfs out (if TT l key = true then EE (TT l) m key else []) r := by
  intro m
  induction m with
  | zero =>
    intro f key out hf hk hlen hout
    obtain ⟨g, rfl⟩ : ∃ g, f = g + 1 := ⟨f - 1, by omega⟩
    show ∃ r, place_cells_bd (place_cells_r g) l key (lv : Int) out = some r ∧ _
    unfold place_cells_bd
    rw [cellBox_eq hk (by omega)]
    simp only [Option.bind_some]
    by_cases ho : 1000 < out.length
    · rw [if_pos (by omega)]
      unfold place_cells_j1
      rw [if_pos rfl]
      exact ⟨out, rfl, Dfs.full ho⟩
    · rw [if_neg (by omega), (touch_key hr hk (by omega)).1]
      simp only [Option.bind_some]
      unfold place_cells_j1
      cases TT l key
      · rw [if_pos (show (!false) = true from rfl), if_neg (by simp)]
        exact ⟨out, rfl, Dfs.nil out⟩
      · rw [if_neg (by simp), if_pos (by omega), if_pos rfl, app_le (by simp; omega)]
        exact ⟨_, rfl, Dfs.one key (by omega)⟩
  | succ m ih =>
    intro f key out hf hk hlen hout
    obtain ⟨g, rfl⟩ : ∃ g, f = g + 1 := ⟨f - 1, by omega⟩
    show ∃ r, place_cells_bd (place_cells_r g) l key (lv : Int) out = some r ∧ _
    unfold place_cells_bd
    rw [cellBox_eq hk (by omega)]
    simp only [Option.bind_some]
    by_cases ho : 1000 < out.length
    · rw [if_pos (by omega)]
      unfold place_cells_j1
      rw [if_pos rfl]
      exact ⟨out, rfl, Dfs.full ho⟩
    · rw [if_neg (by omega), (touch_key hr hk (by omega)).1]
      simp only [Option.bind_some]
      unfold place_cells_j1
      cases TT l key
      · rw [if_pos (show (!false) = true from rfl), if_neg (by simp)]
        exact ⟨out, rfl, Dfs.nil out⟩
      · rw [if_neg (by simp), if_neg (by omega), if_pos rfl, EE_succ]
        unfold place_cells_l1
        exact four_loop (fun X n => place_cells_b1 (place_cells_r g) l key (lv : Int) X n) (fun q X => place_cells_r g l q (lv : Int) X) key (by omega) (fun X n => rfl) (fun c => if TT l (key ++ c) = true then EE (TT l) m (key ++ c) else []) (fun c hc X hX => by
          have hks := kOK_snoc hk hc
          exact ih g (key ++ c) X (by omega) hks.1 (by omega) hX) 4 0 out (by omega) hout
open Classical in
theorem TT_root {l : List Spot} (hr : Right l) : TT l [] = true := by
  have h1 := hr.lo
  unfold TT
  refine decide_eq_true (.inr (.inl ?_))
  have hB := hr.sb l[0] (List.getElem_mem (by omega))
  have hp : GS l[0] = pl l 0 := pl_at (by omega)
  unfold inB
  rw [← hp]
  unfold SB at hB
  show (-16384 ≤ l[0].X ∧ l[0].X ≤ -16384 + 32768) ∧ (-16384 ≤ l[0].Y ∧ l[0].Y ≤ -16384 + 32768)
  omega
theorem cells_n {l : List Spot} (hr : Right l) {lv : Nat} (hlv : lv ≤ 15) : ∃ r, place_cells_n3x l [] (lv : Int) = some r ∧ Dfs [] (FF (TT l) lv) r := by
  rw [FF_eq]
  have hk : kOK [] := fun c hc => by simp at hc
  unfold place_cells_n3x
  rw [cellBox_eq hk (by simp)]
  simp only [Option.bind_some]
  rw [if_neg (by omega), (touch_key hr hk (by simp)).1, TT_root hr]
  simp only [Option.bind_some]
  unfold place_cells_n3x_j1
  rw [if_neg (by simp)]
  match lv, hlv with
  | 0, _ =>
    rw [if_pos (by simp), app_le (by simp)]
    exact ⟨_, rfl, Dfs.one [] (by simp)⟩
  | m + 1, hlv =>
    rw [if_neg (by simp; omega), EE_succ]
    unfold place_cells_n3x_l1
    exact four_loop (fun X n => place_cells_n3x_b1 l [] ((m + 1 : Nat) : Int) X n) (fun q X => place_cells l q ((m + 1 : Nat) : Int) X) [] (by simp) (fun X n => rfl) (fun c => if TT l ([] ++ c) = true then EE (TT l) m ([] ++ c) else []) (fun c hc X hX => by
      have hks := kOK_snoc hk hc
      unfold place_cells
      exact cells_r hr hlv m depth ([] ++ c) X (by unfold depth; omega) hks.1 (by have := hks.2; simp at this ⊢; omega) hX) 4 0 [] (by omega) (by simp)
/-! breadth first -/
theorem QC_l3 {l : List Spot} (hr : Right l) (n13 : Int) {key : Str} (hk : kOK key) (hl : key.length < 15) : ∀ (m j : Nat) (X : List Str), j + m = 4 → X.length + m ≤ 100000 → Q_CellsOf_l3 l n13 key X (j : Int) = some (.inl (X ++ ((dgs.drop j).map (key ++ ·)).filter (TT l), w64 (n13 + 1))) := by
  intro m
  induction m with
  | zero =>
    intro j X hj hX
    obtain rfl : j = 4 := by omega
    unfold Q_CellsOf_l3
    rw [iter_eq, Q_CellsOf_b3, if_neg (by simp), map_inr_after]
    show some (Sum.inl (X, w64 (n13 + 1))) = some (Sum.inl (X ++ [], w64 (n13 + 1)))
    rw [List.append_nil]
  | succ m ih =>
    intro j X hj hX
    obtain ⟨c, hc, hm, hd⟩ := idx_lt dgs (i := (j : Int)) (by omega) (by show (j : Int) < 4; omega)
    rw [show ((j : Int)).toNat = j by omega, show ((j : Int) + 1).toNat = j + 1 by omega] at hd
    have w1 : w64 ((j : Int) + 1) = ((j + 1 : Nat) : Int) := by rw [w64_in] <;> omega
    have hks := kOK_snoc hk hm
    have hcl : c.length = 1 := by have := hks.2; simp at this; omega
    rw [hd, List.map_cons, List.filter_cons]
    have ih0 := ih (j + 1)
    unfold Q_CellsOf_l3 at ih0 ⊢
    rw [iter_eq, Q_CellsOf_b3, if_pos (by show (j : Int) < 4; omega), show idx [([48] : Str), ([49] : Str), ([50] : Str), ([51] : Str)] (j : Int) = some c from hc]
    simp only [Option.bind_some]
    rw [cat_le (by omega)]
    simp only [Option.bind_some]
    rw [QBox_eq hks.1 (by omega)]
    simp only [Option.bind_some]
    rw [(touch_key hr hks.1 (by omega)).2]
    simp only [Option.bind_some]
    unfold Q_CellsOf_j1
    rw [w1]
    by_cases ht : TT l (key ++ c) = true
    · rw [if_pos ht, if_pos ht, app_le (by simp; omega)]
      simp only [Option.bind_some, after_inl]
      have ih1 := ih0 (X ++ [key ++ c]) (by omega) (by simp; omega)
      rw [ih1, List.append_assoc]; rfl
    · rw [if_neg ht, if_neg ht]
      simp only [Option.bind_some, after_inl]
      exact ih0 X (by omega) (by omega)
theorem QC_l2 {l : List Spot} (hr : Right l) (n7 : Int) (L : List Str) (hL : L.length ≤ 1000) (hk : ∀ x ∈ L, kOK x ∧ x.length < 15) : ∀ (m i : Nat) (X : List Str), i + m = L.length → X.length ≤ 4 * i → Q_CellsOf_l2 l L n7 X (i : Int) = Q_CellsOf_k2 n7 (X ++ (L.drop i).flatMap (E1 (TT l))) := by
  intro m
  induction m with
  | zero =>
    intro i X hi hX
    unfold Q_CellsOf_l2
    rw [iter_eq, Q_CellsOf_b2, if_neg (by simp only; omega), map_inr_after, List.drop_of_length_le (by omega)]
    simp
  | succ m ih =>
    intro i X hi hX
    obtain ⟨c, hc, hm, hd⟩ := idx_lt L (i := (i : Int)) (by omega) (by omega)
    rw [show ((i : Int)).toNat = i by omega, show ((i : Int) + 1).toNat = i + 1 by omega] at hd
    have w1 : w64 ((i : Int) + 1) = ((i + 1 : Nat) : Int) := by rw [w64_in] <;> omega
    obtain ⟨k1, k2⟩ := hk c hm
    have h3 := QC_l3 hr (i : Int) k1 k2 4 0 X (by omega) (by omega)
    rw [List.drop_zero] at h3
    have he := E1_len (TT l) c
    have ih0 := ih (i + 1) (X ++ E1 (TT l) c) (by omega) (by rw [List.length_append]; omega)
    unfold Q_CellsOf_l2 at ih0 ⊢
    rw [iter_eq, Q_CellsOf_b2, if_pos (by simp only; omega), hc]
    simp only [Option.bind_some]
    rw [show (0 : Int) = ((0 : Nat) : Int) from rfl, h3, w1, hd, List.flatMap_cons]
    simp only [Option.bind_some, after_inl]
    rw [← List.append_assoc]
    exact ih0
theorem CellsOf_go {l : List Spot} (hr : Right l) {lv : Nat} (hlv : lv ≤ 15) : ∀ (m k : Nat), k + m = lv → (FF (TT l) k).length ≤ 1000 → Q_CellsOf_l1 l (lv : Int) (FF (TT l) k) (k : Int) = some (if 1000 < (FF (TT l) lv).length then ([], 2) else (FF (TT l) lv, 0)) := by
  intro m
  induction m with
  | zero =>
    intro k hk hl
    obtain rfl : k = lv := by omega
    unfold Q_CellsOf_l1
    rw [iter_eq, Q_CellsOf_b1, if_neg (by simp only; omega), map_inr_after, if_neg (by omega)]
  | succ m ih =>
    intro k hk hl
    have w1 : w64 ((k : Int) + 1) = ((k + 1 : Nat) : Int) := by rw [w64_in] <;> omega
    have h2 := QC_l2 hr (k : Int) (FF (TT l) k) hl (fun x hx => by
      obtain ⟨a, b, _⟩ := FF_mem (TT l) (TT_root hr) k x hx
      exact ⟨a, by omega⟩) (FF (TT l) k).length 0 [] (by omega) (by simp)
    rw [List.drop_zero, List.nil_append, show (FF (TT l) k).flatMap (E1 (TT l)) = FF (TT l) (k + 1) from rfl] at h2
    have hmono := FF_mono (TT l) (fun key a b c => TT_part a b c) (TT_root hr) (k := k + 1) m (by omega)
    rw [show k + 1 + m = lv by omega] at hmono
    have ih0 := ih (k + 1) (by omega)
    unfold Q_CellsOf_l1 at ih0 ⊢
    rw [iter_eq, Q_CellsOf_b1, if_pos (by simp only; omega)]
    simp only
    rw [show (0 : Int) = ((0 : Nat) : Int) from rfl, h2]
    unfold Q_CellsOf_k2
    by_cases hb : 1000 < (FF (TT l) (k + 1)).length
    · rw [if_pos (by omega), if_pos (by omega), map_inr_after]
    · rw [if_neg (by omega), w1]
      simp only [Option.bind_some, after_inl]
      exact ih0 (by omega)
theorem CellsOf_eq {l : List Spot} (hr : Right l) {lv : Nat} (hlv : lv ≤ 15) : Q_CellsOf l (lv : Int) = some (if 1000 < (FF (TT l) lv).length then ([], 2) else (FF (TT l) lv, 0)) := by
  unfold Q_CellsOf
  exact CellsOf_go hr hlv lv 0 (by omega) (by simp [FF])
theorem Cells_eq (f : FenceS) (lv : Int) : ∃ t : List Str × Int, t.1.length ≤ 1000 ∧ place_Cells f lv = some (if fenE f ≠ 0 then ([], fenE f) else if lv < 0 ∨ 15 < lv then ([], 1) else t) ∧ (fenE f = 0 → ¬ (lv < 0 ∨ 15 < lv) → Q_CellsOf f.Corners lv = some t) := by
  unfold place_Cells
  rw [CheckFence_eq]
  simp only [Option.bind_some]
  by_cases h : fenE f ≠ 0
  · refine ⟨([], 0), by simp, ?_, fun h' => absurd h' h⟩
    rw [if_pos h, if_pos h]
  · have hr := fenE_right (Classical.not_not.1 h)
    by_cases hv : lv < 0 ∨ 15 < lv
    · refine ⟨([], 0), by simp, ?_, fun _ h' => absurd hv h'⟩
      rw [if_neg h, if_neg h, Out_eq, if_pos (by simpa using hv), if_pos hv]
    · obtain ⟨n, hn⟩ : ∃ n : Nat, lv = n := ⟨lv.toNat, by omega⟩
      subst hn
      obtain ⟨r, r1, r2, r3, _⟩ := cells_n hr (lv := n) (by omega)
      have hC := CellsOf_eq hr (lv := n) (by omega)
      by_cases hb : 1000 < (FF (TT f.Corners) n).length
      · have := r3 (by simpa using hb)
        refine ⟨([], 2), by simp, ?_, fun _ _ => by rw [hC, if_pos hb]⟩
        rw [if_neg h, if_neg h, Out_eq, if_neg (by simp; omega), if_neg hv, r1]
        simp only [Option.bind_some]
        rw [if_pos (by omega)]
      · have e := r2 (by simp; omega)
        rw [List.nil_append] at e
        subst e
        refine ⟨(FF (TT f.Corners) n, 0), by simp only; omega, ?_, fun _ _ => by rw [hC, if_neg hb]⟩
        rw [if_neg h, if_neg h, Out_eq, if_neg (by simp; omega), if_neg hv, r1]
        simp only [Option.bind_some]
        rw [if_neg (by omega)]
end Go.Beacon

/- Trimming. No program in sight. -/
set_option linter.unusedVariables false
set_option linter.unusedSimpArgs false
namespace Go.Beacon
open Go Go.Eng

theorem dropW_nil {α : Type} (p : α → Bool) : ∀ l : List α, l.dropWhile p = [] ↔ l.all p = true
  | [] => by simp
  | x :: r => by
    rw [List.dropWhile_cons]
    cases h : p x with
    | true => simp only [if_true, List.all_cons, h, Bool.true_and]; exact dropW_nil p r
    | false => simp [h]
theorem trimS_nil (l cs : Str) : Lib.trimS l cs = [] ↔ l.all (fun c => decide (c ∈ cs)) = true := by
  have hc : ∀ c : UInt8, cs.contains c = decide (c ∈ cs) := fun c => by rw [Bool.eq_iff_iff]; simp
  unfold Lib.trimS Lib.trimLeftS Lib.trimRightS
  rw [dropW_nil, List.all_reverse]
  constructor
  · intro h
    have hd : (l.reverse.dropWhile (cs.contains ·)) = [] := by
      cases hh : l.reverse.dropWhile (cs.contains ·) with
      | nil => rfl
      | cons a b =>
        have h1 := List.head?_dropWhile_not (fun c => cs.contains c) l.reverse
        rw [hh] at h h1
        simp only [List.head?_cons] at h1
        simp only [List.all_cons, Bool.and_eq_true] at h
        rw [h.1] at h1; simp at h1
    rw [dropW_nil, List.all_reverse] at hd
    simpa [hc] using hd
  · intro h
    have hd : l.reverse.dropWhile (cs.contains ·) = [] := by
      rw [dropW_nil, List.all_reverse]; simpa [hc] using h
    rw [hd]; rfl
theorem trimO_eq {s cs : Str} (h1 : s.length ≤ 100000) (h2 : cs.length ≤ 100000) (h3 : cs.all (fun b => decide (b.toNat < 128)) = true) : trimO s cs = some (Lib.trimS s cs) := by
  unfold trimO; rw [if_pos ⟨by omega, by omega, h3⟩]
end Go.Beacon

/- CellsNamed: names of cells, the law. No program in sight. -/
set_option linter.unusedVariables false
set_option linter.unusedSimpArgs false
namespace Go.Beacon
open Go Go.Eng

/-! names -/
theorem and_one {n : Int} (h0 : 0 ≤ n) (h1 : n < 100000) : andI .i64 n 1 = n % 2 := by
  unfold andI
  obtain ⟨m, rfl⟩ := Int.eq_ofNat_of_zero_le h0
  have hm : m < 100000 := by omega
  have e : (BitVec.ofInt IntKind.i64.bits (m : Int) &&& BitVec.ofInt IntKind.i64.bits 1).toNat = m % 2 := by
    rw [BitVec.toNat_and, BitVec.ofInt_natCast, BitVec.toNat_ofNat]
    show (m % 2 ^ 64) &&& 1 = m % 2
    rw [Nat.mod_eq_of_lt (by omega), Nat.and_one_is_mod]
  rw [e]
  show w64 ((m % 2 : Nat) : Int) = _
  rw [w64_in (by omega) (by omega)]; omega
theorem dig_byte : ∀ d : Fin 4, UInt8.ofNat ((48 : Int) + (d.val : Int)).toNat = UInt8.ofNat (48 + d.val) ∧ Lib.itoa (d.val : Int) = [UInt8.ofNat (48 + d.val)] := by decide +kernel
theorem itoa_dig {d : Int} (h : 0 ≤ d ∧ d ≤ 3) : itoaO d = some [UInt8.ofNat ((48 : Int) + d).toNat] := by
  obtain ⟨m, rfl⟩ := Int.eq_ofNat_of_zero_le h.1
  have h2 := dig_byte ⟨m, by omega⟩
  unfold itoaO
  rw [if_pos (by omega)]
  simp only at h2
  rw [h2.1]
  exact congrArg some h2.2
theorem u8_small {n : Int} (h : 0 ≤ n ∧ n < 256) : IntKind.u8.wrap n = n := by
  unfold IntKind.wrap
  show (if (false && _) = true then _ else n % 2 ^ 8) = n
  rw [if_neg (by simp)]
  omega
theorem fdiv_pow {u : Int} (h0 : 0 ≤ u) {k : Nat} (hk : k < 15) : shrO .i64 u (w64 ((14 : Int) - (k : Int))) = some (u / gN (k + 1)) := by
  rw [w64_in (by omega) (by omega)]
  unfold shrO shrI
  rw [if_neg (by omega)]
  have e : min ((14 : Int) - (k : Int)).toNat IntKind.i64.bits = 15 - (k + 1) := by
    show min _ 64 = _
    omega
  rw [e, Int.fdiv_eq_ediv_of_nonneg _ (by have := gN_pos (k + 1); unfold gN at this; omega)]
  rfl
theorem Cell_go (s : Spot) (hX : 0 ≤ s.X + 16384 ∧ s.X + 16384 ≤ 32767) (hY : 0 ≤ s.Y + 16384 ∧ s.Y + 16384 ≤ 32767) {lv : Nat} (hlv : lv ≤ 15) : ∀ (m k : Nat) (A : List Int) (Q : Str), k + m = lv → strB A = Q → A.length = k → ∃ R, place_Cell_l1 s (lv : Int) A (gN k) (k : Int) = some (R, 0) ∧ Q_CellOf_l1 s (lv : Int) Q (k : Int) = some R := by
  intro m
  induction m with
  | zero =>
    intro k A Q hk hA hl
    refine ⟨Q, ?_, ?_⟩
    · unfold place_Cell_l1
      rw [iter_eq, place_Cell_b1, if_neg (by simp only; omega), map_inr_after, hA]
    · unfold Q_CellOf_l1
      rw [iter_eq, Q_CellOf_b1, if_neg (by simp only; omega), map_inr_after]
  | succ m ih =>
    intro k A Q hk hA hl
    have w1 : w64 ((k : Int) + 1) = ((k + 1 : Nat) : Int) := by rw [w64_in] <;> omega
    have hg := gN_half (n := k) (by omega)
    have hp := gN_pos (k + 1)
    have hgb : gN (k + 1) ≤ 16384 := by
      have : gN k ≤ 32768 := by
        unfold gN
        have h1 : (2 : Nat) ^ (15 - k) ≤ 2 ^ 15 := Nat.pow_le_pow_right (by omega) (by omega)
        have h2 : ((2 : Int) ^ (15 - k)) = ((2 ^ (15 - k) : Nat) : Int) := by push_cast; rfl
        rw [h2]; omega
      omega
    have hh : w64 ((gN k).tdiv 2) = gN (k + 1) := by
      rw [Int.tdiv_eq_ediv_of_nonneg (by omega), w64_in (by omega) (by omega)]; omega
    have ex : w64 (s.X - (-16384)) = s.X + 16384 := by rw [w64_in (by omega) (by omega)]; omega
    have ey : w64 (s.Y - (-16384)) = s.Y + 16384 := by rw [w64_in (by omega) (by omega)]; omega
    have ex2 : w64 (s.X + 16384) = s.X + 16384 := w64_in (by omega) (by omega)
    have ey2 : w64 (s.Y + 16384) = s.Y + 16384 := w64_in (by omega) (by omega)
    have a1 := Int.ediv_nonneg hX.1 (show (0 : Int) ≤ gN (k + 1) by omega)
    have a2 := Int.ediv_le_self (gN (k + 1)) hX.1
    have b1 := Int.ediv_nonneg hY.1 (show (0 : Int) ≤ gN (k + 1) by omega)
    have b2 := Int.ediv_le_self (gN (k + 1)) hY.1
    have t1 : ((s.X + 16384) / gN (k + 1)).tmod 2 = (s.X + 16384) / gN (k + 1) % 2 := Int.tmod_eq_emod_of_nonneg a1
    have t2 : ((s.Y + 16384) / gN (k + 1)).tmod 2 = (s.Y + 16384) / gN (k + 1) % 2 := Int.tmod_eq_emod_of_nonneg b1
    have q1 : quo (s.X + 16384) (gN (k + 1)) = some ((s.X + 16384) / gN (k + 1)) := quo_pos hp hX.1 (by omega)
    have q2 : quo (s.Y + 16384) (gN (k + 1)) = some ((s.Y + 16384) / gN (k + 1)) := quo_pos hp hY.1 (by omega)
    have f1 := fdiv_pow hX.1 (k := k) (by omega)
    have f2 := fdiv_pow hY.1 (k := k) (by omega)
    have n1 := and_one a1 (by omega)
    have n2 := and_one b1 (by omega)
    generalize hu : (s.X + 16384) / gN (k + 1) = u at *
    generalize hv : (s.Y + 16384) / gN (k + 1) = v at *
    have hd : 0 ≤ 2 * (v % 2) + u % 2 ∧ 2 * (v % 2) + u % 2 ≤ 3 := by omega
    have dg : IntKind.u8.wrap (IntKind.u8.wrap (48 + IntKind.u8.wrap (u.tmod 2)) + IntKind.u8.wrap (2 * IntKind.u8.wrap (v.tmod 2))) = 48 + (2 * (v % 2) + u % 2) := by
      rw [t1, t2, u8_small (n := u % 2) (by omega), u8_small (n := v % 2) (by omega), u8_small (n := 48 + u % 2) (by omega), u8_small (n := 2 * (v % 2)) (by omega), u8_small (by omega)]; omega
    obtain ⟨R, r1, r2⟩ := ih (k + 1) (A ++ [48 + (2 * (v % 2) + u % 2)]) (Q ++ [UInt8.ofNat ((48 : Int) + (2 * (v % 2) + u % 2)).toNat]) (by omega) (by rw [← hA]; unfold strB; rw [List.map_append]; rfl) (by simp; omega)
    have hQl : Q.length = k := by rw [← hA]; unfold strB; simpa using hl
    refine ⟨R, ?_, ?_⟩
    · unfold place_Cell_l1 at r1 ⊢
      rw [iter_eq, place_Cell_b1, if_pos (by simp only; omega)]
      simp only
      rw [hh, ex, ey, q1, q2]
      simp only [Option.bind_some]
      rw [dg, app_le (by simp; omega), w1]
      simp only [Option.bind_some, after_inl]
      exact r1
    · unfold Q_CellOf_l1 at r2 ⊢
      rw [iter_eq, Q_CellOf_b1, if_pos (by simp only; omega)]
      simp only
      rw [ex2, ey2, f1, f2]
      simp only [Option.bind_some]
      rw [n1, n2, w64_in (x := 2 * (v % 2)) (by omega) (by omega), w64_in (x := 2 * (v % 2) + u % 2) (by omega) (by omega), itoa_dig hd]
      simp only [Option.bind_some]
      rw [cat_le (by simp; omega), w1]
      simp only [Option.bind_some, after_inl]
      exact r2
instance (s : Spot) : Decidable (SBn s) := by unfold SBn; infer_instance
theorem Cell_eq (s : Spot) (lv : Int) : ∃ R, place_Cell s lv = some (if SBn s ∧ 0 ≤ lv ∧ lv ≤ 15 then (R, 0) else ([], 1)) ∧ (SBn s → 0 ≤ lv ∧ lv ≤ 15 → Q_CellOf s lv = some R) := by
  unfold place_Cell place_Cell_j1
  by_cases hs : SBn s
  · by_cases hl : 0 ≤ lv ∧ lv ≤ 15
    · obtain ⟨n, hn⟩ : ∃ n : Nat, lv = n := ⟨lv.toNat, by omega⟩
      subst hn
      obtain ⟨R, r1, r2⟩ := Cell_go s (by unfold SBn at hs; omega) (by unfold SBn at hs; omega) (lv := n) (by omega) n 0 [] [] (by omega) rfl rfl
      refine ⟨R, ?_, fun _ _ => r2⟩
      rw [(isSpot_eq s).2 hs, Out_eq, if_neg (by simp; omega), if_pos ⟨hs, hl⟩]
      exact r1
    · refine ⟨[], ?_, fun _ h => absurd h hl⟩
      rw [Out_eq, if_pos (by simp; omega), if_neg (fun h => hl h.2)]
  · refine ⟨[], ?_, fun h => absurd h hs⟩
    have : place_isSpot s = false := by
      cases h : place_isSpot s with
      | false => rfl
      | true => exact absurd ((isSpot_eq s).1 h) hs
    rw [this, if_pos (by simp), if_neg (fun h => hs h.1)]
/-! boxes -/
theorem all_kOK {key : Str} : key.all (fun c => decide (c ∈ ([48, 49, 50, 51] : Str))) = true ↔ kOK key := by
  rw [List.all_eq_true]
  unfold kOK
  constructor
  · intro h c hc
    have := h c hc
    simpa using this
  · intro h c hc
    have := h c hc
    simpa using this
theorem CellFault_eq {key : Str} (h : key.length ≤ 100) : Q_CellFault key = some (if key.length ≤ 15 ∧ key.all (fun c => decide (c ∈ ([48, 49, 50, 51] : Str))) = true then 0 else 9) := by
  unfold Q_CellFault Q_CellFault_j1
  by_cases hl : key.length ≤ 15
  · rw [if_neg (by omega), only_eq _ _ (by omega)]
    simp only [Option.bind_some]
    cases key.all (fun c => decide (c ∈ ([48, 49, 50, 51] : Str)))
    · rw [if_pos (show (!false) = true from rfl), if_neg (by simp)]
    · rw [if_neg (by simp), if_pos ⟨hl, rfl⟩]
  · rw [if_pos (by omega), if_pos rfl, if_neg (fun h => hl h.1)]
theorem CellBox_eq {key : Str} (h : key.length ≤ 100) : place_CellBox key = some (if key.length ≤ 15 ∧ key.all (fun c => decide (c ∈ ([48, 49, 50, 51] : Str))) = true then (⟨(box key).1, (box key).2.1⟩, (box key).2.2, 0) else (⟨0, 0⟩, 0, 9)) := by
  unfold place_CellBox place_CellBox_j1
  by_cases hl : key.length ≤ 15
  · rw [if_neg (by omega), trimO_eq (by omega) (by simp) (by decide)]
    simp only [Option.bind_some]
    by_cases ha : key.all (fun c => decide (c ∈ ([48, 49, 50, 51] : Str))) = true
    · rw [decide_eq_false (by simpa using (trimS_nil key [48, 49, 50, 51]).2 ha), if_neg (by simp), if_pos ⟨hl, ha⟩, cellBox_eq (all_kOK.1 ha) hl]
      rfl
    · rw [decide_eq_true (show Lib.trimS key [48, 49, 50, 51] ≠ [] from fun h => ha ((trimS_nil key [48, 49, 50, 51]).1 h)), if_pos rfl, if_neg (fun h => ha h.2)]
  · rw [if_pos (by omega), if_pos rfl, if_neg (fun h => hl h.1)]
/-! the generator -/
theorem CellKey_k {s : Stm} {K : Int} (hs : SOk s K) (hK : 30 ≤ K) : Gen (Stream_CellKey s) (K - 30) (fun t => t.length ≤ 100) := by
  refine Gen.of ?_
  unfold Stream_CellKey
  refine Ok.gen (Range_k hs (by omega) (by omega) (by omega) (by omega)) (fun v s1 hv q1 => ?_)
  dsimp only
  unfold Stream_CellKey_l1
  refine Ok.iter (fun x : List Int × Int × Str × Int => (v - x.2.2.2).toNat) (fun x : List Int × Int × Str × Int => 0 ≤ x.2.2.2 ∧ x.2.2.2 ≤ v ∧ SOk ⟨x.1, x.2.1⟩ (K - 28 + (v - x.2.2.2)) ∧ (x.2.2.1.length : Int) ≤ x.2.2.2) ?_ _ ⟨by simp, by simp only; omega, q1.less (by simp only; omega), by simp⟩
  rintro ⟨L, a, q, n⟩ ⟨g0, g1, g2, g3⟩
  simp only at g0 g1 g2 g3 ⊢
  unfold Stream_CellKey_b1
  by_cases hn : n < v
  · rw [if_pos hn]
    refine Ok.gen (Some_k g2 (by omega) (by simp) (by simp)) (fun u s2 hu q2 => ?_)
    have hul : u.length = 1 := by
      simp only [List.mem_cons, List.not_mem_nil, or_false] at hu
      rcases hu with e | e | e | e <;> subst e <;> rfl
    dsimp only
    refine Ok.cat (by omega) ?_
    refine Ok.ret ?_
    rw [w64_in (by omega) (by omega)]
    exact ⟨⟨by simp only; omega, by simp only; omega, q2.less (by simp only; omega), by simp; omega⟩, by simp only; omega⟩
  · rw [if_neg hn]
    refine Ok.inr ?_
    unfold Stream_CellKey_k2 Stream_CellKey_j1
    refine Ok.gen (Flip_k g2 (by omega) (by omega) (by omega)) (fun b s2 _ q2 => ?_)
    dsimp only
    split
    · refine Ok.gen (Some_k q2 (by omega) (by simp) (by simp)) (fun u s3 hu q3 => ?_)
      refine Ok.ret ⟨?_, q3.less (by omega)⟩
      simp only [List.mem_cons, List.not_mem_nil, or_false] at hu
      rcases hu with e | e | e | e <;> subst e <;> simp
    · exact Ok.ret ⟨by simp only; omega, q2.less (by omega)⟩
/-! the law -/
theorem errs2N (x y : Int) : L_errs [x, y] = some (orL [x, y]) := gOr_eq _ (by simp)
theorem cn_j6 (R : Str) (e1 : Int) (sp : Spot) (g e2 : Int) (t : List Str) (e3 : Int) (ht : t.length ≤ 1000) : L_CellsNamed_j6 (R, e1) (sp, g, e2) (t, e3) e1 e2 R sp.X sp.Y g e3 t = some true := by
  unfold L_CellsNamed_j6
  rw [if_pos rfl, if_pos rfl, if_pos rfl, if_pos rfl, if_pos rfl, if_pos rfl]
  rw [show slices_Equal_string_string t t = some (decide (t = t)) from gEqual_eq t t (by omega)]
  simp only [decide_true, Option.bind_some, if_true]
  rw [placedL_eq]
  rfl
theorem cn_j5 (f : FenceS) (sf : Stm) (deep : Int) (sd : Stm) (v16 : Str × Int) (v17 : Spot × Int × Int) (n21 v24 : Int) (R : Str) (x y g : Int) (h16 : v16 = (R, n21)) (h17 : v17 = (⟨x, y⟩, g, v24)) (v19 : List Str × Int) (h19 : place_Cells f deep = some v19) (n25 : Int) (h25 : n25 = orL [fenE f, if deep < 0 ∨ 15 < deep then 1 else 0]) : L_CellsNamed_j5 (f, sf) (deep, sd) v16 v17 v19 n21 v24 n25 R x y g = some true := by
  obtain ⟨t, t0, t1, t2⟩ := Cells_eq f deep
  subst h16 h17
  rw [t1] at h19
  obtain rfl := Option.some.inj h19
  unfold L_CellsNamed_j5
  by_cases hf : fenE f = 0
  · by_cases hd : deep < 0 ∨ 15 < deep
    · have e : n25 = 1 := by rw [h25, hf, if_pos hd]; decide
      rw [e, if_neg (by omega), if_neg (by simp [hf]), if_pos hd]
      exact cn_j6 R n21 ⟨x, y⟩ g v24 [] 1 (by simp)
    · have e : n25 = 0 := by rw [h25, hf, if_neg hd]; decide
      rw [e, if_pos rfl, if_neg (by simp [hf]), if_neg hd, t2 hf hd]
      simp only [Option.bind_some]
      exact cn_j6 R n21 ⟨x, y⟩ g v24 t.1 t.2 t0
  · have e : n25 = fenE f := by rw [h25, orL2, if_pos hf]
    rw [e, if_neg hf, if_pos hf]
    exact cn_j6 R n21 ⟨x, y⟩ g v24 [] (fenE f) (by simp)
theorem cn_j2 (lv : Int) (sl : Stm) (key : Str) (sk : Stm) (f : FenceS) (sf : Stm) (px py : Int) (deep : Int) (sd : Stm) (hk : key.length ≤ 100) (v16 : Str × Int) (h16 : place_Cell ⟨px, py⟩ lv = some v16) (v17 : Spot × Int × Int) (h17 : place_CellBox key = some v17) (v19 : List Str × Int) (h19 : place_Cells f deep = some v19) (n21 : Int) (h21 : n21 = orL [Q_SpotFault ⟨px, py⟩, if lv < 0 ∨ 15 < lv then 1 else 0]) : L_CellsNamed_j2 (lv, sl) (key, sk) (f, sf) px py (deep, sd) v16 v17 v19 n21 = some true := by
  obtain ⟨R, c1, c2⟩ := Cell_eq ⟨px, py⟩ lv
  rw [c1] at h16
  obtain rfl := Option.some.inj h16
  rw [CellBox_eq hk] at h17
  obtain rfl := Option.some.inj h17
  have hs := SpotFault_eq ⟨px, py⟩
  have j3 : L_CellsNamed_j3 (lv, sl) (key, sk) (f, sf) px py (deep, sd) (if SBn ⟨px, py⟩ ∧ 0 ≤ lv ∧ lv ≤ 15 then (R, 0) else ([], 1)) (if key.length ≤ 15 ∧ key.all (fun c => decide (c ∈ ([48, 49, 50, 51] : Str))) = true then (⟨(box key).1, (box key).2.1⟩, (box key).2.2, 0) else (⟨0, 0⟩, 0, 9)) v19 n21 (if key.length ≤ 15 ∧ key.all (fun c => decide (c ∈ ([48, 49, 50, 51] : Str))) = true then 0 else 9) (orL [fenE f, if deep < 0 ∨ 15 < deep then 1 else 0]) = some true := by
    have j4 : ∀ (v : Str × Int) (S : Str), v = (S, n21) → L_CellsNamed_j4 (key, sk) (f, sf) (deep, sd) v (if key.length ≤ 15 ∧ key.all (fun c => decide (c ∈ ([48, 49, 50, 51] : Str))) = true then (⟨(box key).1, (box key).2.1⟩, (box key).2.2, 0) else (⟨0, 0⟩, 0, 9)) v19 n21 (if key.length ≤ 15 ∧ key.all (fun c => decide (c ∈ ([48, 49, 50, 51] : Str))) = true then 0 else 9) (orL [fenE f, if deep < 0 ∨ 15 < deep then 1 else 0]) S = some true := by
      intro v S hv
      unfold L_CellsNamed_j4
      by_cases hb : key.length ≤ 15 ∧ key.all (fun c => decide (c ∈ ([48, 49, 50, 51] : Str))) = true
      · rw [if_pos hb, if_pos hb, if_pos rfl]
        dsimp only
        rw [QBox_eq (all_kOK.1 hb.2) hb.1]
        simp only [Option.bind_some]
        exact cn_j5 f sf deep sd v _ n21 0 S _ _ _ hv rfl v19 h19 _ rfl
      · rw [if_neg hb, if_neg hb, if_neg (by omega)]
        exact cn_j5 f sf deep sd v _ n21 9 S 0 0 0 hv rfl v19 h19 _ rfl
    unfold L_CellsNamed_j3
    by_cases hsb : SBn ⟨px, py⟩
    · rw [hs.1 hsb] at h21
      by_cases hl : lv < 0 ∨ 15 < lv
      · have e : n21 = 1 := by rw [h21, if_pos hl]; decide
        rw [if_neg (by omega), if_neg (by omega)]
        exact j4 _ [] (by rw [e])
      · have e : n21 = 0 := by rw [h21, if_neg hl]; decide
        rw [if_pos e, if_pos ⟨hsb, by omega⟩]
        dsimp only
        rw [c2 hsb (by omega)]
        simp only [Option.bind_some]
        exact j4 _ R (by rw [e])
    · rw [hs.2 hsb] at h21
      have e : n21 = 1 := by rw [h21, orL2, if_pos (by omega)]
      rw [if_neg (by omega), if_neg (fun h => hsb h.1)]
      exact j4 _ [] (by rw [e])
  unfold L_CellsNamed_j2 L_when
  dsimp only
  rw [CellFault_eq hk, FenceFault_eq]
  simp only [Option.bind_some]
  rw [errs2N, errs2N]
  simp only [Option.bind_some, if_true]
  by_cases hd : deep < 0
  · rw [if_pos hd]
    rw [if_pos (show deep < 0 ∨ 15 < deep from .inl hd)] at j3
    exact j3
  · rw [if_neg hd]
    by_cases h15 : 15 < deep
    · rw [if_pos (show deep < 0 ∨ 15 < deep from .inr h15)] at j3
      rw [decide_eq_true h15, if_pos rfl]
      exact j3
    · rw [if_neg (show ¬ (deep < 0 ∨ 15 < deep) by omega)] at j3
      rw [decide_eq_false h15, if_neg Bool.false_ne_true]
      exact j3
theorem cn_j1 (lv : Int) (sl : Stm) (key : Str) (sk : Stm) (f : FenceS) (sf : Stm) (L : List Int) (a : Int) (px py : Int) (hk : key.length ≤ 100) (hs : SOk ⟨L, a⟩ 5) : L_CellsNamed_j1 (lv, sl) (key, sk) (f, sf) L a px py = some true := by
  have key : Ok (L_CellsNamed_j1 (lv, sl) (key, sk) (f, sf) L a px py) (fun r => r = true) := by
    unfold L_CellsNamed_j1
    refine Ok.gen (Pick_k hs (by omega) (by simp) (by simp)) (fun deep s1 _ q1 => ?_)
    dsimp only
    obtain ⟨R, c1, _⟩ := Cell_eq ⟨px, py⟩ lv
    obtain ⟨t, _, t1, _⟩ := Cells_eq f deep
    have hj := fun n21 h21 => cn_j2 lv sl key sk f sf px py deep s1 hk _ c1 _ (CellBox_eq hk) _ t1 n21 h21
    rw [c1, CellBox_eq hk, t1]
    simp only [Option.bind_some]
    unfold L_when
    rw [errs2N, errs2N]
    simp only [Option.bind_some, if_true]
    by_cases hd : lv < 0
    · rw [if_pos hd]
      exact ⟨true, hj _ (by rw [if_pos (show lv < 0 ∨ 15 < lv from .inl hd)]), rfl⟩
    · rw [if_neg hd]
      refine ⟨true, hj _ ?_, rfl⟩
      by_cases h15 : 15 < lv
      · rw [if_pos (show lv < 0 ∨ 15 < lv from .inr h15), decide_eq_true h15, if_pos rfl]
      · rw [if_neg (show ¬ (lv < 0 ∨ 15 < lv) by omega), decide_eq_false h15, if_neg Bool.false_ne_true]
  obtain ⟨r, h1, rfl⟩ := key
  exact h1
theorem CellsNamed_plain (L : List Int) : L_CellsNamed L = some true := by
  have key : Ok (L_CellsNamed L) (fun r => r = true) := by
    unfold L_CellsNamed
    refine Ok.gen (Spot_ok (s := ⟨L, 0⟩) (k := 900) ⟨by simp, by simp⟩ (by omega)) (fun p s1 _ q1 => ?_)
    refine Ok.gen (Pick_k q1 (by omega) (by simp) (by simp)) (fun lv s2 _ q2 => ?_)
    refine Ok.gen (CellKey_k q2 (by omega)) (fun key s3 hk q3 => ?_)
    refine Ok.gen (Fence_ok (k := 500) (q3.less (by omega)) (by omega)) (fun f s4 _ q4 => ?_)
    refine Ok.gen (Flip_k q4 (by omega) (by omega) (by omega)) (fun b s5 _ q5 => ?_)
    dsimp only
    split
    · refine Ok.gen (Range_k q5 (by omega) (by omega) (by omega) (by omega)) (fun u s6 _ q6 => ?_)
      refine Ok.gen (Range_k q6 (by omega) (by omega) (by omega) (by omega)) (fun v s7 _ q7 => ?_)
      exact ⟨true, cn_j1 lv s2 key s3 f s4 s7.L s7.at_ u v hk (q7.less (by omega)), rfl⟩
    · exact ⟨true, cn_j1 lv s2 key s3 f s4 s5.L s5.at_ p.X p.Y hk (q5.less (by omega)), rfl⟩
  obtain ⟨r, h1, rfl⟩ := key
  exact h1
end Go.Beacon

