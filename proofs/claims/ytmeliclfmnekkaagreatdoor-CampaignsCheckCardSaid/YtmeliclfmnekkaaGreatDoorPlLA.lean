/- Plain facts on what the functions compute. No program in sight. -/
import Derived.Test.YtmeliclfmnekkaaGreatDoorCacP
import Derived.Test.YtmeliclfmnekkaaGreatDoorPlBA
import Derived.Lib.AtoiTie
import Derived.Lib.AtoiBound
import Derived.Lib.ItoaLen
import Derived.Laws.Bits64
/- Plain facts of the streams that make inputs: each ends, and what it hands out is within bounds. No program in sight. -/
set_option linter.unusedVariables false
set_option linter.unusedSimpArgs false
namespace Go.Beacon
open Go Go.Eng

abbrev Stm := Fleetmake_Stream
/-- At least k more numbers can be drawn. -/
def SOk (s : Stm) (k : Int) : Prop := 0 ≤ s.at_ ∧ s.at_ + k ≤ 4611686018427387904
theorem SOk.less {s : Stm} {k k' : Int} (h : SOk s k) (hk : k' ≤ k) : SOk s k' := ⟨h.1, by have := h.2; omega⟩
def Gen {α : Type} (m : Option (α × Stm)) (k : Int) (P : α → Prop) : Prop := ∃ v s', m = some (v, s') ∧ P v ∧ SOk s' k
theorem Gen.bind {α β : Type} {m : Option (α × Stm)} {k k' : Int} {P : α → Prop} {Q : β → Prop} {f : α × Stm → Option (β × Stm)} (h : Gen m k P) (hf : ∀ v s', P v → SOk s' k → Gen (f (v, s')) k' Q) : Gen (m.bind f) k' Q := by
  obtain ⟨v, s', rfl, h1, h2⟩ := h
  exact hf v s' h1 h2
theorem Gen.ret {α : Type} {v : α} {s : Stm} {k : Int} {P : α → Prop} (h1 : P v) (h2 : SOk s k) : Gen (some (v, s)) k P := ⟨v, s, rfl, h1, h2⟩
theorem Gen.mono {α : Type} {m : Option (α × Stm)} {k k' : Int} {P Q : α → Prop} (h : Gen m k P) (hk : k' ≤ k) (hp : ∀ v, P v → Q v) : Gen m k' Q := by
  obtain ⟨v, s', e, h1, h2⟩ := h
  exact ⟨v, s', e, hp v h1, h2.less hk⟩

theorem Below_ok (x : Int) {n : Int} (h1 : 1 ≤ n) (h2 : n ≤ 4611686018427387904) : ∃ v, Below x n = some v ∧ 0 ≤ v ∧ v < n := by
  unfold Below Below_j1
  rw [if_neg (by omega), rem_ne (by omega)]
  have a1 := Int.lt_tmod_of_pos x (show 0 < n by omega)
  have a2 := Int.tmod_lt_of_pos x (show 0 < n by omega)
  simp only [Option.bind_some]
  split
  · exact ⟨_, rfl, by rw [w64_in] <;> omega, by rw [w64_in] <;> omega⟩
  · exact ⟨_, rfl, by omega, by omega⟩

theorem Next_ok {s : Stm} {n k : Int} (hs : SOk s (k + 1)) (h1 : 1 ≤ n) (h2 : n ≤ 4611686018427387904) (hk : 0 ≤ k) : Gen (Stream_Next s n) k (fun v => 0 ≤ v ∧ v < n) := by
  obtain ⟨a1, a2⟩ := hs
  have e1 : w64 (s.at_ + 1) = s.at_ + 1 := by rw [w64_in] <;> omega
  have e2 : w64 (s.at_ + 1 - 1) = s.at_ := by rw [w64_in] <;> omega
  unfold Stream_Next
  split
  · obtain ⟨v, hv, h3, h4⟩ := Below_ok (w64 (w64 (s.at_ + 1) * 7919)) h1 h2
    rw [hv]
    exact Gen.ret ⟨h3, h4⟩ ⟨by show 0 ≤ w64 (s.at_ + 1); omega, by show w64 (s.at_ + 1) + k ≤ _; omega⟩
  · rename_i hl
    have hl' : (0 : Int) < s.L.length := by omega
    rw [e1, e2, rem_pos hl' a1, quo_ne (by omega)]
    simp only [Option.bind_some]
    obtain ⟨x, hx, _, _⟩ := idx_lt s.L (i := s.at_ % s.L.length) (Int.emod_nonneg _ (by omega)) (Int.emod_lt_of_pos _ hl')
    rw [hx]
    simp only [Option.bind_some]
    obtain ⟨u, hu, _, _⟩ := Below_ok x (n := 1073741824) (by omega) (by omega)
    rw [hu]
    simp only [Option.bind_some]
    obtain ⟨v, hv, h3, h4⟩ := Below_ok (w64 (u + w64 (w64 (s.at_.tdiv s.L.length) * w64 (7919 + s.at_ % s.L.length)))) h1 h2
    rw [hv]
    exact Gen.ret ⟨h3, h4⟩ ⟨by simp only; omega, by simp only; omega⟩

theorem Pick_ok {s : Stm} {l : List Int} {k : Int} (hs : SOk s (k + 1)) (h1 : l ≠ []) (h2 : l.length ≤ 1000) (hk : 0 ≤ k) : Gen (Stream_Pick s l) k (fun v => v ∈ l) := by
  unfold Stream_Pick
  have hl : 0 < l.length := List.length_pos_iff.2 h1
  refine Gen.bind (Next_ok hs (by omega) (by omega) hk) (fun v s' hv hs' => ?_)
  obtain ⟨x, hx, hm, _⟩ := idx_lt l hv.1 hv.2
  simp only [hx, Option.bind_some]
  exact Gen.ret hm hs'
theorem Range_ok {s : Stm} {a b k : Int} (hs : SOk s (k + 1)) (hab : a ≤ b) (ha : -1152921504606846976 ≤ a) (hb : b ≤ 1152921504606846976) (hk : 0 ≤ k) : Gen (Stream_Range s a b) k (fun v => a ≤ v ∧ v ≤ b) := by
  unfold Stream_Range
  have e1 : w64 (b - a) = b - a := by rw [w64_in] <;> omega
  have e2 : w64 (b - a + 1) = b - a + 1 := by rw [w64_in] <;> omega
  rw [if_neg (by omega), e1, e2]
  refine Gen.bind (Next_ok hs (by omega) (by omega) hk) (fun v s' hv hs' => ?_)
  refine Gen.ret ?_ hs'
  simp only
  rw [w64_in] <;> omega
theorem Flip_ok {s : Stm} {n k : Int} (hs : SOk s (k + 1)) (h1 : 1 ≤ n) (h2 : n ≤ 4611686018427387904) (hk : 0 ≤ k) : Gen (Stream_Flip s n) k (fun _ => True) := by
  unfold Stream_Flip
  exact Gen.bind (Next_ok hs h1 h2 hk) (fun v s' hv hs' => Gen.ret trivial hs')
theorem Some_ok {s : Stm} {l : List Str} {k : Int} (hs : SOk s (k + 1)) (h1 : l ≠ []) (h2 : l.length ≤ 1000) (hk : 0 ≤ k) : Gen (Stream_Some s l) k (fun v => v ∈ l) := by
  unfold Stream_Some
  have hl : 0 < l.length := List.length_pos_iff.2 h1
  refine Gen.bind (Next_ok hs (by omega) (by omega) hk) (fun v s' hv hs' => ?_)
  obtain ⟨x, hx, hm, _⟩ := idx_lt l hv.1 hv.2
  simp only [hx, Option.bind_some]
  exact Gen.ret hm hs'
theorem Odd_ok {s : Stm} {a b k : Int} (hs : SOk s (k + 2)) (hab : a ≤ b) (ha : -1099511627776 ≤ a) (hb : b ≤ 1099511627776) (hk : 0 ≤ k) : Gen (Stream_Odd s a b) k (fun v => -1099511627777 ≤ v ∧ v ≤ 1099511627777) := by
  unfold Stream_Odd
  refine Gen.bind (Flip_ok (k := k + 1) (hs.less (by omega)) (by omega) (by omega) (by omega)) (fun v s' hv hs' => ?_)
  simp only
  split
  · refine Gen.bind (Pick_ok hs' (by simp) (by simp) hk) (fun v s' hv hs' => Gen.ret ?_ hs')
    have e1 : w64 (a - 1) = a - 1 := by rw [w64_in] <;> omega
    have e2 : w64 (b + 1) = b + 1 := by rw [w64_in] <;> omega
    rw [e1, e2] at hv
    simp only [List.mem_cons, List.not_mem_nil, or_false] at hv
    simp only; omega
  · refine Gen.bind (Range_ok hs' hab (by omega) (by omega) hk) (fun v s' hv hs' => Gen.ret ?_ hs')
    simp only; omega
end Go.Beacon

/- Streams, in the form that is stepped by one text: what can still be drawn is counted down. No program in sight. -/
set_option linter.unusedVariables false
set_option linter.unusedSimpArgs false
namespace Go.Beacon
open Go Go.Eng

theorem Next_k {s : Stm} {n K : Int} (hs : SOk s K) (hK : 1 ≤ K) (h1 : 1 ≤ n) (h2 : n ≤ 4611686018427387904) : Gen (Stream_Next s n) (K - 1) (fun v => 0 ≤ v ∧ v < n) :=
  Next_ok (hs.less (by omega)) h1 h2 (by omega)
theorem Flip_k {s : Stm} {n K : Int} (hs : SOk s K) (hK : 1 ≤ K) (h1 : 1 ≤ n) (h2 : n ≤ 4611686018427387904) : Gen (Stream_Flip s n) (K - 1) (fun _ => True) :=
  Flip_ok (hs.less (by omega)) h1 h2 (by omega)
theorem Pick_k {s : Stm} {l : List Int} {K : Int} (hs : SOk s K) (hK : 1 ≤ K) (h1 : l ≠ []) (h2 : l.length ≤ 1000) : Gen (Stream_Pick s l) (K - 1) (fun v => v ∈ l) :=
  Pick_ok (hs.less (by omega)) h1 h2 (by omega)
theorem Range_k {s : Stm} {a b K : Int} (hs : SOk s K) (hK : 1 ≤ K) (hab : a ≤ b) (ha : -1152921504606846976 ≤ a) (hb : b ≤ 1152921504606846976) : Gen (Stream_Range s a b) (K - 1) (fun v => a ≤ v ∧ v ≤ b) :=
  Range_ok (hs.less (by omega)) hab ha hb (by omega)
theorem Some_k {s : Stm} {l : List Str} {K : Int} (hs : SOk s K) (hK : 1 ≤ K) (h1 : l ≠ []) (h2 : l.length ≤ 1000) : Gen (Stream_Some s l) (K - 1) (fun v => v ∈ l) :=
  Some_ok (hs.less (by omega)) h1 h2 (by omega)
theorem Odd_k {s : Stm} {a b K : Int} (hs : SOk s K) (hK : 2 ≤ K) (hab : a ≤ b) (ha : -1099511627776 ≤ a) (hb : b ≤ 1099511627776) : Gen (Stream_Odd s a b) (K - 2) (fun v => -1099511627777 ≤ v ∧ v ≤ 1099511627777) :=
  Odd_ok (hs.less (by omega)) hab ha hb (by omega)
end Go.Beacon

/- Plain facts of keys: the program's check and the reference's. No program in sight. -/
set_option linter.unusedVariables false
set_option linter.unusedSimpArgs false
namespace Go.Beacon
open Go Go.Eng

theorem Out_eq (n lo hi : Int) : base_Out n lo hi = (decide (n < lo) || decide (hi < n)) := rfl
theorem Qin_eq (n lo hi : Int) : Q_in n lo hi = (decide (lo ≤ n) && decide (n ≤ hi)) := rfl
/-! keys -/
def okN (n : Nat) : Bool := (decide (97 ≤ n) && decide (n ≤ 122)) || (decide (48 ≤ n) && decide (n ≤ 57)) || decide (n = 45) || decide (n = 95)
def keyB : Str → Bool
  | [] => false
  | c :: r => decide ((c :: r).length ≤ 40) && (decide (97 ≤ c.toNat) && decide (c.toNat ≤ 122)) && (c :: r).all (fun c => okN c.toNat)
theorem keyB_cons (c : UInt8) (r : Str) : keyB (c :: r) = (decide ((c :: r).length ≤ 40) && (decide (97 ≤ c.toNat) && decide (c.toNat ≤ 122)) && (c :: r).all (fun c => okN c.toNat)) := rfl
theorem Key_loop (s : Str) (hl : s.length ≤ 40) : base_Key_l1 s 0 = some (s.all (fun c => okN c.toNat)) := by
  unfold base_Key_l1
  rw [iter_find s (fun x : Int => base_Key_b1 s x) (fun c => if okN c.toNat = true then none else some false) true (by omega), findE_bool]
  · intro i c h0 h1 hc
    have hB : (if (97 : Int) ≤ (c.toNat : Int) then if (c.toNat : Int) ≤ (122 : Int) then !true else if (48 : Int) ≤ (c.toNat : Int) then if (c.toNat : Int) ≤ (57 : Int) then !true else if (c.toNat : Int) = (45 : Int) then !true else decide (¬ ((c.toNat : Int) = (95 : Int))) else if (c.toNat : Int) = (45 : Int) then !true else decide (¬ ((c.toNat : Int) = (95 : Int))) else if (48 : Int) ≤ (c.toNat : Int) then if (c.toNat : Int) ≤ (57 : Int) then !true else if (c.toNat : Int) = (45 : Int) then !true else decide (¬ ((c.toNat : Int) = (95 : Int))) else if (c.toNat : Int) = (45 : Int) then !true else decide (¬ ((c.toNat : Int) = (95 : Int)))) = !okN c.toNat := by
      unfold okN
      rw [Bool.eq_iff_iff]
      repeat' split
      all_goals simp
      all_goals omega
    rw [base_Key_b1, if_pos h1, hc]
    simp only [Option.bind_some]
    rw [hB]
    unfold base_Key_j2
    rw [w64_in (by omega) (by omega)]
    cases okN c.toNat <;> rfl
  · rw [base_Key_b1, if_neg (by omega)]; rfl
theorem Key_eq (s : Str) : base_Key s = some (keyB s) := by
  unfold base_Key base_Key_j1
  cases s with
  | nil => simp [keyB]
  | cons c r =>
    rw [if_neg (by simp)]
    have hc : idx (c :: r) 0 = some c := rfl
    rw [hc]
    simp only [Option.bind_some]
    by_cases hl : (c :: r).length ≤ 40
    · rw [if_neg (by omega), Key_loop _ hl, keyB_cons]
      by_cases h1 : (c.toNat : Int) < 97
      · rw [if_pos h1]
        have : decide (97 ≤ c.toNat) = false := by simp; omega
        rw [this]; simp
      · rw [if_neg h1]
        have e1 : decide (97 ≤ c.toNat) = true := by simp; omega
        by_cases h2 : (122 : Int) < c.toNat
        · rw [if_pos (by simpa using h2)]
          have : decide (c.toNat ≤ 122) = false := by simp; omega
          rw [this]; simp
        · rw [if_neg (by simpa using h2)]
          have : decide (c.toNat ≤ 122) = true := by simp; omega
          rw [e1, this, decide_eq_true hl]; simp
    · rw [if_pos (by omega), keyB_cons, decide_eq_false hl]; simp
theorem chars_fin : ∀ n : Fin 256, decide (UInt8.ofNat n.val ∈ ([97, 98, 99, 100, 101, 102, 103, 104, 105, 106, 107, 108, 109, 110, 111, 112, 113, 114, 115, 116, 117, 118, 119, 120, 121, 122, 48, 49, 50, 51, 52, 53, 54, 55, 56, 57, 45, 95] : List UInt8)) = okN n.val := by decide +kernel
theorem low_fin : ∀ n : Fin 256, decide (UInt8.ofNat n.val ∈ ([97, 98, 99, 100, 101, 102, 103, 104, 105, 106, 107, 108, 109, 110, 111, 112, 113, 114, 115, 116, 117, 118, 119, 120, 121, 122] : List UInt8)) = (decide (97 ≤ n.val) && decide (n.val ≤ 122)) := by decide +kernel
theorem u8_fin {p : UInt8 → Bool} {q : Nat → Bool} (h : ∀ n : Fin 256, p (UInt8.ofNat n.val) = q n.val) (c : UInt8) : p c = q c.toNat := by
  have := h ⟨c.toNat, c.toNat_lt⟩
  simpa using this
theorem only_eq (s chars : Str) (hl : (s.length : Int) ≤ 4611686018427387904) : Q_only s chars = some (s.all (fun c => decide (c ∈ chars))) := by
  unfold Q_only Q_only_l1
  rw [iter_find s (fun x : Int => Q_only_b1 s chars x) (fun c => if decide (c ∈ chars) = true then none else some false) true hl, findE_bool]
  · intro i c h0 h1 hc
    rw [Q_only_b1, if_pos h1, hc]
    simp only [Option.bind_some, indexByteI, toU8]
    rw [w64_in (by omega) (by omega)]
    by_cases hm : c ∈ chars
    · rw [if_neg (fun h => (indexByte_nonneg _ _).1 h hm)]; simp [hm]
    · rw [if_pos ((indexByte_nonneg _ _).2 hm)]; simp [hm]
  · rw [Q_only_b1, if_neg (by omega)]; rfl
theorem QKey_eq (s : Str) : Q_Key s = some (keyB s) := by
  unfold Q_Key Q_Key_j1
  rw [Qin_eq]
  cases s with
  | nil => rfl
  | cons c r =>
    have hs : slc (c :: r) 0 1 = some [c] := by rw [slc_in (by omega) (by omega) (by simp; omega)]; simp
    rw [hs]
    simp only [Option.bind_some]
    by_cases hl : (c :: r).length ≤ 40
    · rw [if_pos (by simp; simp at hl; omega), only_eq _ _ (by simp)]
      simp only [Option.bind_some, List.all_cons, List.all_nil, Bool.and_true]
      rw [only_eq _ _ (by omega)]
      simp only [Option.bind_some]
      rw [u8_fin (p := fun c => decide (c ∈ ([97, 98, 99, 100, 101, 102, 103, 104, 105, 106, 107, 108, 109, 110, 111, 112, 113, 114, 115, 116, 117, 118, 119, 120, 121, 122] : List UInt8))) (q := fun n => decide (97 ≤ n) && decide (n ≤ 122)) low_fin c]
      have e : (c :: r).all (fun c => decide (c ∈ ([97, 98, 99, 100, 101, 102, 103, 104, 105, 106, 107, 108, 109, 110, 111, 112, 113, 114, 115, 116, 117, 118, 119, 120, 121, 122, 48, 49, 50, 51, 52, 53, 54, 55, 56, 57, 45, 95] : List UInt8))) = (c :: r).all (fun c => okN c.toNat) := by
        congr 1; funext c
        exact u8_fin (p := fun c => decide (c ∈ ([97, 98, 99, 100, 101, 102, 103, 104, 105, 106, 107, 108, 109, 110, 111, 112, 113, 114, 115, 116, 117, 118, 119, 120, 121, 122, 48, 49, 50, 51, 52, 53, 54, 55, 56, 57, 45, 95] : List UInt8))) chars_fin c
      rw [e, keyB_cons, decide_eq_true hl, Bool.true_and]
      split
      · rename_i h; rw [h]; simp
      · rename_i h
        rw [Bool.not_eq_true] at h
        rw [h]; simp
    · rw [if_neg (by simp; simp at hl; omega), keyB_cons, decide_eq_false hl]; rfl

theorem CompareI_eq (a b : Int) : cmp_Compare_int a b = cmpI a b := by
  unfold cmp_Compare_int cmp_isNaN_int cmpI; simp
theorem Moment_eq (n : Int) : base_Moment n = (decide (0 ≤ n) && decide (n ≤ 345686399999)) := by
  unfold base_Moment
  rw [Out_eq, Bool.eq_iff_iff]
  simp
theorem QMoment_eq (n : Int) : Q_Moment n = (decide (0 ≤ n) && decide (n ≤ 345686399999)) := rfl
end Go.Beacon

/- Plain facts: loops by a measure, products within bounds, quotients rounded down. No program in sight. -/
set_option linter.unusedVariables false
set_option linter.unusedSimpArgs false
namespace Go.Beacon
open Go Go.Eng

/-- A loop whose rounds keep something and make a number smaller ends; what its last round tells holds. -/
theorem iter_inv {S A : Type} (f : S → Option (S ⊕ A)) (m : S → Nat) (Inv : S → Prop) (R : A → Prop)
    (h : ∀ s, Inv s → (∃ s', f s = some (.inl s') ∧ Inv s' ∧ m s' < m s) ∨ (∃ a, f s = some (.inr a) ∧ R a)) : ∀ s, Inv s → ∃ a, iter f s = some a ∧ R a := by
  have key : ∀ (n : Nat) s, m s ≤ n → Inv s → ∃ a, iter f s = some a ∧ R a := by
    intro n
    induction n with
    | zero =>
      intro s hm hi
      rcases h s hi with ⟨s', _, _, h3⟩ | ⟨a, h1, h2⟩
      · omega
      · exact ⟨a, by rw [iter_eq, h1]; rfl, h2⟩
    | succ n ih =>
      intro s hm hi
      rcases h s hi with ⟨s', h1, h2, h3⟩ | ⟨a, h1, h2⟩
      · obtain ⟨a, h4, h5⟩ := ih s' (by omega) h2
        exact ⟨a, by rw [iter_eq, h1]; simpa using h4, h5⟩
      · exact ⟨a, by rw [iter_eq, h1]; rfl, h2⟩
  exact fun s hi => key (m s) s (Nat.le_refl _) hi
/-- The same, for a result that may be missing. -/
theorem iter_to {S A : Type} (f : S → Option (S ⊕ A)) (m : S → Nat) (Inv : S → Prop) (r : Option A)
    (h : ∀ s, Inv s → (∃ s', f s = some (.inl s') ∧ Inv s' ∧ m s' < m s) ∨ f s = r.map .inr) : ∀ s, Inv s → iter f s = r := by
  have key : ∀ (n : Nat) s, m s ≤ n → Inv s → iter f s = r := by
    intro n
    induction n with
    | zero =>
      intro s hm hi
      rcases h s hi with ⟨s', _, _, h3⟩ | h1
      · omega
      · rw [iter_eq, h1, map_inr_after]
    | succ n ih =>
      intro s hm hi
      rcases h s hi with ⟨s', h1, h2, h3⟩ | h1
      · rw [iter_eq, h1]; simpa using ih s' (by omega) h2
      · rw [iter_eq, h1, map_inr_after]
  exact fun s hi => key (m s) s (Nat.le_refl _) hi
theorem First_eq (xs : List Int) (h : (xs.length : Int) ≤ 4611686018427387904) : base_First xs = some (orL xs) := gOr_eq xs h
theorem orL3 (x y z : Int) : orL [x, y, z] = if orL [x, y] ≠ 0 then orL [x, y] else z := by
  by_cases h1 : x = 0 <;> by_cases h2 : y = 0 <;> by_cases h3 : z = 0 <;> simp [orL, h1, h2, h3]
theorem orL2 (x y : Int) : orL [x, y] = if x ≠ 0 then x else y := by
  by_cases h1 : x = 0 <;> by_cases h2 : y = 0 <;> simp [orL, h1, h2]
end Go.Beacon

/- Plain functions that end, and what their results are like: one lemma for each step. No program in sight. -/
set_option linter.unusedVariables false
set_option linter.unusedSimpArgs false
namespace Go.Beacon
open Go Go.Eng

/-- It ends, and its result is so. -/
def Ok {α : Type} (m : Option α) (Q : α → Prop) : Prop := ∃ r, m = some r ∧ Q r
theorem Ok.ret {α : Type} {v : α} {Q : α → Prop} (h : Q v) : Ok (some v) Q := ⟨v, rfl, h⟩
theorem Ok.mono {α : Type} {m : Option α} {P Q : α → Prop} (h : Ok m P) (hp : ∀ v, P v → Q v) : Ok m Q := by
  obtain ⟨r, h1, h2⟩ := h; exact ⟨r, h1, hp r h2⟩
theorem Ok.bind {α β : Type} {m : Option α} {f : α → Option β} {P : α → Prop} {Q : β → Prop} (h : Ok m P) (hf : ∀ v, P v → Ok (f v) Q) : Ok (m.bind f) Q := by
  obtain ⟨r, rfl, h2⟩ := h; exact hf r h2
theorem Ok.is {α β : Type} {m : Option α} {v : α} {f : α → Option β} {Q : β → Prop} (h : m = some v) (hf : Ok (f v) Q) : Ok (m.bind f) Q := by rw [h]; exact hf
theorem Ok.inr {α β : Type} {m : Option β} {Q : α ⊕ β → Prop} (h : Ok m (fun r => Q (.inr r))) : Ok (Option.map .inr m) Q := by
  obtain ⟨r, rfl, h2⟩ := h; exact ⟨_, rfl, h2⟩
theorem Ok.gen {α β : Type} {m : Option (α × Stm)} {k : Int} {P : α → Prop} {f : α × Stm → Option β} {Q : β → Prop} (h : Gen m k P) (hf : ∀ v s', P v → SOk s' k → Ok (f (v, s')) Q) : Ok (m.bind f) Q := by
  obtain ⟨v, s', rfl, h1, h2⟩ := h; exact hf v s' h1 h2
theorem Gen.of {α : Type} {m : Option (α × Stm)} {k : Int} {P : α → Prop} (h : Ok m (fun r => P r.1 ∧ SOk r.2 k)) : Gen m k P := by
  obtain ⟨⟨v, s⟩, h1, h2, h3⟩ := h; exact ⟨v, s, h1, h2, h3⟩
theorem Ok.of {α : Type} {m : Option (α × Stm)} {k : Int} {P : α → Prop} (h : Gen m k P) : Ok m (fun r => P r.1 ∧ SOk r.2 k) := by
  obtain ⟨v, s, h1, h2, h3⟩ := h; exact ⟨(v, s), h1, h2, h3⟩
theorem Ok.idx {α β : Type} {xs : List α} {i : Int} {f : α → Option β} {Q : β → Prop} (h0 : 0 ≤ i) (h1 : i < xs.length) (hf : ∀ x, idx xs i = some x → x ∈ xs → Ok (f x) Q) : Ok ((idx xs i).bind f) Q := by
  obtain ⟨x, hx, hm, _⟩ := idx_lt xs h0 h1
  rw [hx]; exact hf x hx hm
theorem Ok.app {α β : Type} {xs ys : List α} {f : List α → Option β} {Q : β → Prop} (h : xs.length + ys.length ≤ 1000000000) (hf : Ok (f (xs ++ ys)) Q) : Ok ((app xs ys).bind f) Q := by
  rw [app_le h]; exact hf
theorem Ok.slc {α β : Type} {xs : List α} {a b : Int} {f : List α → Option β} {Q : β → Prop} (h0 : 0 ≤ a) (h1 : a ≤ b) (h2 : b ≤ xs.length) (hf : ∀ ys : List α, ys = (xs.drop a.toNat).take (b.toNat - a.toNat) → (ys.length : Int) = b - a → Ok (f ys) Q) : Ok ((slc xs a b).bind f) Q := by
  rw [slc_in h0 h1 h2]; exact hf _ rfl (by simp; omega)
theorem cat_le {a b : Str} (h : a.length + b.length ≤ 9223372036854775807) : catO a b = some (a ++ b) := by unfold catO; rw [if_pos h]
/-- What a round of a loop may tell: it keeps something and makes a number smaller, or it is the last. -/
abbrev Stp {S A : Type} (m : S → Nat) (Inv : S → Prop) (R : A → Prop) (s : S) : S ⊕ A → Prop
  | .inl s' => Inv s' ∧ m s' < m s
  | .inr a => R a
theorem Ok.iter {S A : Type} {f : S → Option (S ⊕ A)} {R : A → Prop} (m : S → Nat) (Inv : S → Prop)
    (h : ∀ s, Inv s → Ok (f s) (Stp m Inv R s)) (s : S) (hs : Inv s) : Ok (iter f s) R := by
  refine iter_inv f m Inv R (fun s hi => ?_) s hs
  obtain ⟨r, h1, h2⟩ := h s hi
  cases r with
  | inl s' => exact .inl ⟨s', h1, h2.1, h2.2⟩
  | inr a => exact .inr ⟨a, h1, h2⟩
/-- A round of a loop over the places of a list. -/
abbrev Rng {A : Type} (N : Nat) (R : A → Prop) (i : Int) : Int ⊕ A → Prop
  | .inl j => j = i + 1 ∧ i < N
  | .inr a => R a
theorem Ok.range {A : Type} {f : Int → Option (Int ⊕ A)} {R : A → Prop} (N : Nat) (h : ∀ i : Int, 0 ≤ i → i ≤ N → Ok (f i) (Rng N R i)) : Ok (Eng.iter f 0) R := by
  refine Ok.iter (fun i : Int => N + 1 - i.toNat) (fun i : Int => 0 ≤ i ∧ i ≤ N) (fun i hi => ?_) 0 ⟨by omega, by omega⟩
  refine (h i hi.1 hi.2).mono (fun r hr => ?_)
  cases r with
  | inl j => simp only [Rng, Stp] at hr ⊢; omega
  | inr a => exact hr
/-- The same loops are the same. -/
theorem iter_same {S A : Type} {f g : S → Option (S ⊕ A)} (h : ∀ s, f s = g s) (s : S) : iter f s = iter g s := by rw [funext h]
end Go.Beacon

/- Strings cut at one byte. No program in sight. -/
set_option linter.unusedVariables false
set_option linter.unusedSimpArgs false
namespace Go.Beacon
open Go Go.Eng

/-- A string cut at each byte c. -/
def splitC (c : UInt8) : Str → List Str
  | [] => [[]]
  | b :: r => if b = c then [] :: splitC c r else match splitC c r with
    | [] => [[b]]
    | h :: t => (b :: h) :: t
theorem splitC_length (c : UInt8) : ∀ s, (splitC c s).length ≤ s.length + 1
  | [] => by simp [splitC]
  | b :: r => by
    have ih := splitC_length c r
    unfold splitC
    split
    · simp; omega
    · split
      · simp
      · rename_i h t e; rw [e] at ih; simp at ih ⊢; omega
theorem split_C (c : UInt8) : ∀ s, Lib.split s [c] = splitC c s
  | [] => rfl
  | b :: r => by
    have ih := split_C c r
    unfold Lib.split at ih ⊢
    unfold splitC
    by_cases hb : b = c
    · subst hb
      have hix : Lib.index (b :: r) [b] = 0 := by rw [Lib.index]; simp [List.isPrefixOf]
      rw [if_pos rfl, Lib.count_cons_eq, Nat.add_comm, Lib.splitK, hix, ← ih]
      simp
    · rw [if_neg hb, Lib.count_cons_ne b c r hb, ← ih]
      have hp : ([c] : List UInt8).isPrefixOf (b :: r) = false := by simp [List.isPrefixOf, Ne.symm hb]
      have hix : Lib.index (b :: r) [c] = if Lib.index r [c] == -1 then -1 else Lib.index r [c] + 1 := by rw [Lib.index, hp]; simp
      by_cases hm : Lib.index r [c] = -1
      · rw [Lib.count_miss hm]; rfl
      · have hge := Lib.index_ge r [c]
        obtain ⟨j, hj⟩ : ∃ j : Nat, Lib.index r [c] = j := ⟨(Lib.index r [c]).toNat, by omega⟩
        have hix' : Lib.index (b :: r) [c] = ((j + 1 : Nat) : Int) := by rw [hix, if_neg (fun e => hm (beq_iff_eq.1 e)), hj]; omega
        rw [Lib.count_hit (by simp) hj, Nat.add_comm]
        have n1 : ¬ ((((j + 1 : Nat) : Int) == -1) = true) := fun h => by have := beq_iff_eq.1 h; omega
        have n2 : ¬ ((((j : Nat) : Int) == -1) = true) := fun h => by have := beq_iff_eq.1 h; omega
        simp only [Lib.splitK, hix', hj, if_neg n1, if_neg n2]
        simp [List.take_succ_cons]
/-- strings.Split at one byte. -/
theorem splitO_eq {s : Str} {c : UInt8} (h : s.length ≤ 1000000000) : splitO s [c] = some (splitC c s) := by
  unfold splitO
  rw [if_pos ⟨by omega, by simp⟩]
  congr 1
  have h1 := Lib.splitB_data ⟨#[c]⟩ 0 (Lib.countB ⟨s.toArray⟩ ⟨#[c]⟩) ⟨s.toArray⟩
  rw [← split_C]
  exact h1
end Go.Beacon

/- Numbers in their one spelling: what both readers of numbers take. No program in sight. -/
set_option linter.unusedVariables false
set_option linter.unusedSimpArgs false
namespace Go.Beacon
open Go Go.Eng

def isDig (c : UInt8) : Bool := decide (48 ≤ c.toNat) && decide (c.toNat ≤ 57)
theorem isDig_val {c : UInt8} (h : isDig c = true) : Lib.digitVal c = some (c.toNat - 48) := by
  unfold isDig at h; simp at h
  unfold Lib.digitVal; rw [if_pos h]
theorem val_dig {c : UInt8} {d : Nat} (h : Lib.digitVal c = some d) : isDig c = true ∧ d = c.toNat - 48 ∧ UInt8.ofNat (48 + d) = c := by
  obtain ⟨h1, h2, h3⟩ := Lib.digitVal_eq h
  refine ⟨by unfold isDig; simp; omega, h3, ?_⟩
  apply UInt8.toNat_inj.1
  rw [UInt8.toNat_ofNat']
  omega
theorem decFrom_all : ∀ (l : Str) (acc : Nat), l.all isDig = true → ∃ m, Lib.decFrom acc l = some m
  | [], acc, _ => ⟨acc, rfl⟩
  | b :: r, acc, h => by
    simp only [List.all_cons, Bool.and_eq_true] at h
    obtain ⟨m, hm⟩ := decFrom_all r (acc * 10 + (b.toNat - 48)) h.2
    exact ⟨m, by rw [Lib.decFrom, isDig_val h.1]; exact hm⟩
theorem dec_grow : ∀ (l : Str) (acc m : Nat), 0 < acc → Lib.decFrom acc l = some m → Lib.decDigits m = Lib.decDigits acc ++ l
  | [], acc, m, _, h => by simp only [Lib.decFrom, Option.some.injEq] at h; simp [h]
  | b :: r, acc, m, ha, h => by
    rw [Lib.decFrom] at h
    cases hd : Lib.digitVal b with
    | none => rw [hd] at h; simp at h
    | some d =>
      rw [hd] at h
      obtain ⟨h1, h2, h3⟩ := Lib.digitVal_eq hd
      have ih := dec_grow r (acc * 10 + d) m (by omega) h
      rw [ih, Lib.decDigits, dif_neg (by omega)]
      rw [show (acc * 10 + d) / 10 = acc by omega, show (acc * 10 + d) % 10 = d by omega, (val_dig hd).2.2]
      simp
theorem dec_head {m : Nat} (h : 0 < m) : ∃ b r, Lib.decDigits m = b :: r ∧ b ≠ 48 := by
  induction m using Nat.strongRecOn with
  | _ m ih =>
    rw [Lib.decDigits]
    split
    · refine ⟨_, _, rfl, ?_⟩
      intro e
      have := congrArg UInt8.toNat e
      rw [UInt8.toNat_ofNat'] at this
      simp at this; omega
    · obtain ⟨b, r, h1, h2⟩ := ih (m / 10) (by omega) (by omega)
      exact ⟨b, r ++ _, by rw [h1]; rfl, h2⟩
theorem dec_zero : Lib.decDigits 0 = [48] := by rw [Lib.decDigits, dif_pos (by omega)]; rfl
/-- Digits without a 0 ahead: the one spelling. -/
theorem dec_spelled {l : Str} {m : Nat} (h : Lib.decFrom 0 l = some m) (hl : l ≠ []) : Lib.decDigits m = l ↔ (l.head? ≠ some 48 ∨ l.length = 1) := by
  cases l with
  | nil => exact absurd rfl hl
  | cons b r =>
    rw [Lib.decFrom] at h
    cases hd : Lib.digitVal b with
    | none => rw [hd] at h; simp at h
    | some d =>
      rw [hd] at h
      simp only [Nat.zero_mul, Nat.zero_add] at h
      obtain ⟨h1, h2, h3⟩ := Lib.digitVal_eq hd
      by_cases hz : d = 0
      · subst hz
        have hb : b = 48 := by rw [← (val_dig hd).2.2]; rfl
        subst hb
        constructor
        · intro e
          right
          by_cases hm : m = 0
          · subst hm; rw [dec_zero] at e
            have := congrArg List.length e; simpa using this.symm
          · obtain ⟨b, r', h4, h5⟩ := dec_head (m := m) (by omega)
            rw [h4] at e; simp at e; exact absurd e.1 h5
        · rintro (e | e)
          · simp at e
          · have : r = [] := by cases r with
              | nil => rfl
              | cons _ _ => simp at e
            subst this
            simp only [Lib.decFrom, Option.some.injEq] at h
            subst h; exact dec_zero
      · have hg := dec_grow r d m (by omega) h
        have hd1 : Lib.decDigits d = [UInt8.ofNat (48 + d)] := by rw [Lib.decDigits, dif_pos (by omega)]
        rw [hd1, (val_dig hd).2.2] at hg
        constructor
        · intro _; left
          intro e; simp at e
          have e2 := (val_dig hd).2.1
          rw [e] at e2; simp at e2; omega
        · intro _; exact hg
theorem dec_digs (m : Nat) : (Lib.decDigits m).all isDig = true := by
  induction m using Nat.strongRecOn with
  | _ m ih =>
    rw [Lib.decDigits]
    have key : ∀ d, d < 10 → isDig (UInt8.ofNat (48 + d)) = true := by
      intro d hd
      unfold isDig; rw [UInt8.toNat_ofNat']; simp; omega
    split
    · rename_i h; rw [List.all_cons, key m h]; rfl
    · rw [List.all_append, ih (m / 10) (by omega), List.all_cons, key (m % 10) (by omega)]; rfl
theorem decFrom_append : ∀ (l r : Str) (acc : Nat), Lib.decFrom acc (l ++ r) = (Lib.decFrom acc l).bind fun a => Lib.decFrom a r
  | [], r, acc => rfl
  | b :: l, r, acc => by
    rw [List.cons_append, Lib.decFrom, Lib.decFrom]
    cases Lib.digitVal b with
    | none => rfl
    | some d => exact decFrom_append l r _
theorem decFrom_digs (m : Nat) : Lib.decFrom 0 (Lib.decDigits m) = some m := by
  induction m using Nat.strongRecOn with
  | _ m ih =>
    have key : ∀ d, d < 10 → Lib.digitVal (UInt8.ofNat (48 + d)) = some d := by
      intro d hd
      unfold Lib.digitVal; rw [UInt8.toNat_ofNat']
      rw [if_pos (by omega)]; congr 1; omega
    rw [Lib.decDigits]
    split
    · rename_i h; rw [Lib.decFrom, key m h]; simp [Lib.decFrom]
    · rw [decFrom_append, ih (m / 10) (by omega)]
      simp only [Option.bind_some]
      rw [Lib.decFrom, key (m % 10) (by omega)]
      simp only [Lib.decFrom]
      congr 1; omega
theorem dec_ne (m : Nat) : Lib.decDigits m ≠ [] := by
  rw [Lib.decDigits]; split
  · simp
  · simp
/-- What is written is read. -/
theorem atoi_itoa (n : Int) : Lib.atoi (Lib.itoa n) = some n := by
  unfold Lib.itoa
  have hN : ∀ m, Lib.decNat (Lib.decDigits m) = some m := by
    intro m; unfold Lib.decNat
    rw [if_neg (by simpa using dec_ne m), decFrom_digs]
  split
  · rw [Lib.atoi]; simp [hN]; omega
  · obtain ⟨b, r, e⟩ := List.exists_cons_of_ne_nil (dec_ne n.toNat)
    have hd := dec_digs n.toNat
    rw [e] at hd ⊢
    simp only [List.all_cons, Bool.and_eq_true] at hd
    have hb := hd.1
    unfold isDig at hb; simp at hb
    have n45 : b ≠ 45 := fun h => by subst h; simp at hb
    have n43 : b ≠ 43 := fun h => by subst h; simp at hb
    rw [Lib.atoi]
    simp only [beq_iff_eq, n45, n43, if_false]
    rw [← e, hN]; simp; omega

/-- The number that a string of at most so many digits spells, in its one spelling. -/
def numT (s : Str) (k : Int) : Option Int :=
  if (Lib.trimPrefix s [45] = [] ∨ k < (Lib.trimPrefix s [45]).length) ∨ (Lib.trimPrefix s [45]).all isDig = false then none
  else match Lib.atoi s with
    | some n => if Lib.itoa n = s then some n else none
    | none => none
theorem trimP_cases (s : Str) : (∃ d, s = 45 :: d ∧ Lib.trimPrefix s [45] = d) ∨ (Lib.trimPrefix s [45] = s ∧ s.head? ≠ some 45) := by
  cases s with
  | nil => right; exact ⟨rfl, by simp⟩
  | cons b r =>
    unfold Lib.trimPrefix
    by_cases h : b = 45
    · subst h; left; exact ⟨r, rfl, by simp [Lib.hasPrefix, List.isPrefixOf]⟩
    · right
      have hp : Lib.hasPrefix (b :: r) [45] = false := by simp [Lib.hasPrefix, List.isPrefixOf, Ne.symm h]
      rw [hp]; exact ⟨by simp, by simpa using h⟩
theorem trimP_length (s : Str) : (Lib.trimPrefix s [45]).length ≤ s.length ∧ s.length ≤ (Lib.trimPrefix s [45]).length + 1 := by
  rcases trimP_cases s with ⟨d, h1, h2⟩ | ⟨h1, _⟩
  · rw [h2, h1]; simp
  · rw [h1]; omega
theorem atoiAll_of {s : Str} {n : Int} (hl : s.length ≤ 18) (h : Lib.atoi s = some n) : Lib.atoiAll s = .ok n := by
  rw [Lib.atoiAll_short s hl, h]; rfl
/-- Digits behind an optional sign spell a number. -/
theorem atoi_digs {s : Str} (h1 : Lib.trimPrefix s [45] ≠ []) (h2 : (Lib.trimPrefix s [45]).all isDig = true) : ∃ n, Lib.atoi s = some n ∧ (Lib.itoa n = s ↔ ¬((Lib.trimPrefix s [45]).head? = some 48 ∧ (1 < (Lib.trimPrefix s [45]).length ∨ (Lib.trimPrefix s [45]).length < s.length))) := by
  rcases trimP_cases s with ⟨d, e1, e2⟩ | ⟨e1, e2⟩
  · rw [e2] at h1 h2 ⊢
    subst e1
    obtain ⟨m, hm⟩ := decFrom_all d 0 h2
    have hN : Lib.decNat d = some m := by unfold Lib.decNat; rw [if_neg (by simpa using h1), hm]
    refine ⟨-(m : Int), by rw [Lib.atoi]; simp [hN], ?_⟩
    have hs := dec_spelled hm h1
    have hlen : d.length < (45 :: d).length := by simp
    constructor
    · rintro e ⟨hh, _⟩
      unfold Lib.itoa at e
      split at e
      · have e' : Lib.decDigits m = d := by simpa using e
        rename_i hneg
        obtain ⟨b, r, h4, h5⟩ := dec_head (m := m) (by omega)
        rw [e'] at h4; rw [h4] at hh; simp at hh; exact h5 hh
      · have := dec_digs (-(m : Int)).toNat
        rw [e] at this; simp [isDig] at this
    · intro hn
      have hh : d.head? ≠ some 48 := fun hh => hn ⟨hh, .inr hlen⟩
      have e' := hs.2 (.inl hh)
      have hm0 : m ≠ 0 := by
        intro h0; subst h0; rw [dec_zero] at e'; subst e'; simp at hh
      unfold Lib.itoa
      rw [if_pos (by omega)]
      simp [e']
  · rw [e1] at h1 h2 ⊢
    obtain ⟨m, hm⟩ := decFrom_all s 0 h2
    have hN : Lib.decNat s = some m := by unfold Lib.decNat; rw [if_neg (by simpa using h1), hm]
    have hs := dec_spelled hm h1
    cases s with
    | nil => exact absurd rfl h1
    | cons b r =>
      have n45 : b ≠ 45 := by simpa using e2
      have hb : isDig b = true := by simp only [List.all_cons, Bool.and_eq_true] at h2; exact h2.1
      have n43 : b ≠ 43 := fun h => by subst h; simp [isDig] at hb
      refine ⟨m, by rw [Lib.atoi]; simp only [beq_iff_eq, n45, n43, if_false]; rw [hN]; rfl, ?_⟩
      have hi : Lib.itoa (m : Int) = Lib.decDigits m := by unfold Lib.itoa; rw [if_neg (by omega)]; simp
      rw [hi, hs]
      constructor
      · rintro (h | h) ⟨h3, h4⟩
        · exact h h3
        · omega
      · intro h
        by_cases hh : (b :: r).head? = some 48
        · right
          have : ¬ (1 < (b :: r).length) := fun h5 => h ⟨hh, .inl h5⟩
          simp at this ⊢; omega
        · exact .inl hh
theorem numT_bound {s : Str} {k : Nat} {n : Int} (h : numT s k = some n) : -(10 ^ k : Nat) < n ∧ n < (10 ^ k : Nat) := by
  unfold numT at h
  split at h
  · cases h
  · rename_i hc
    cases ha : Lib.atoi s with
    | none => rw [ha] at h; cases h
    | some n' =>
      rw [ha] at h
      simp only at h
      split at h
      · obtain rfl := Option.some.inj h
        simp only [not_or] at hc
        have hall : (Lib.trimPrefix s [45]).all isDig = true := by simpa using hc.2
        have hlen : (Lib.trimPrefix s [45]).length ≤ k := by have := hc.1.2; omega
        obtain ⟨m, hm⟩ := decFrom_all _ 0 hall
        have hb := Lib.decFrom_lt _ 0 m hm
        have hp : (10 : Nat) ^ (Lib.trimPrefix s [45]).length ≤ 10 ^ k := Nat.pow_le_pow_right (by omega) hlen
        have hmk : m < 10 ^ k := by omega
        have hnm : n' = m ∨ n' = -(m : Int) := by
          have hN : Lib.decNat (Lib.trimPrefix s [45]) = some m := by unfold Lib.decNat; rw [if_neg (by simpa using hc.1.1), hm]
          rcases trimP_cases s with ⟨d, e1, e2⟩ | ⟨e1, e2⟩
          · rw [e2] at hN; rw [e1, Lib.atoi] at ha; simp [hN] at ha; right; omega
          · rw [e1] at hN hall
            cases s with
            | nil => simp [Lib.atoi] at ha
            | cons b r =>
              have n45 : b ≠ 45 := by simpa using e2
              have hb : isDig b = true := by simp only [List.all_cons, Bool.and_eq_true] at hall; exact hall.1
              have n43 : b ≠ 43 := fun h => by subst h; simp [isDig] at hb
              rw [Lib.atoi] at ha
              simp only [beq_iff_eq, n45, n43, if_false] at ha
              rw [hN] at ha; simp at ha; left; omega
        omega
      · cases h
theorem numT_itoa {n : Int} {k : Int} (h : ((Lib.decDigits n.natAbs).length : Int) ≤ k) : numT (Lib.itoa n) k = some n := by
  have ht : Lib.trimPrefix (Lib.itoa n) [45] = Lib.decDigits n.natAbs := by
    unfold Lib.itoa
    split
    · unfold Lib.trimPrefix; simp [Lib.hasPrefix, List.isPrefixOf]
    · rename_i h0
      rw [show n.toNat = n.natAbs by omega]
      rcases trimP_cases (Lib.decDigits n.natAbs) with ⟨d, e1, e2⟩ | ⟨e1, e2⟩
      · have := dec_digs n.natAbs; rw [e1] at this; simp [isDig] at this
      · exact e1
  unfold numT
  rw [ht, if_neg (by
    rintro ((h1 | h1) | h1)
    · exact dec_ne _ h1
    · omega
    · rw [dec_digs] at h1; cases h1), atoi_itoa]
  simp
theorem Number_loop (s : Str) (hl : s.length ≤ 18) : base_Number_l1 s 0 = if (Lib.trimPrefix s [45]).all isDig = true then base_Number_k3 s else some (0, false) := by
  unfold base_Number_l1
  have hd : ((Lib.trimPrefix s [45]).length : Int) ≤ 4611686018427387904 := by have := trimP_length s; omega
  refine iter_to (fun x : Int => base_Number_b1 s x) (fun i => (Lib.trimPrefix s [45]).length + 1 - i.toNat) (fun i => 0 ≤ i ∧ i ≤ (Lib.trimPrefix s [45]).length ∧ ((Lib.trimPrefix s [45]).take i.toNat).all isDig = true) _ ?_ 0 ⟨by omega, by omega, by simp⟩
  rintro i ⟨h0, h1, h2⟩
  by_cases hi : i < (Lib.trimPrefix s [45]).length
  · obtain ⟨c, hc, _, hdr⟩ := idx_lt (Lib.trimPrefix s [45]) h0 hi
    have hg := (idx_some hc).2.2
    have hmem : c ∈ Lib.trimPrefix s [45] := idx_mem hc
    have hB : base_Number_b1 s i = if isDig c = true then some (.inl (w64 (i + 1))) else Option.map .inr (some ((0 : Int), false)) := by
      unfold base_Number_b1
      rw [if_pos hi, hc]
      simp only [Option.bind_some]
      unfold base_Number_j2 isDig
      by_cases a1 : (c.toNat : Int) < 48
      · rw [if_pos a1, if_pos rfl, if_neg (by simp; omega)]
      · rw [if_neg a1]
        by_cases a2 : (57 : Int) < c.toNat
        · rw [if_pos (by simpa using a2), if_neg (by simp; omega)]
        · rw [if_neg (by simpa using a2), if_pos (by simp; omega)]
    by_cases hdg : isDig c = true
    · left
      refine ⟨i + 1, ?_, ⟨by omega, by omega, ?_⟩, by omega⟩
      · show base_Number_b1 s i = _
        rw [hB, if_pos hdg, w64_in (by omega) (by omega)]
      · rw [show (i + 1).toNat = i.toNat + 1 by omega, List.take_add_one, List.all_append, h2, hg]; simp [hdg]
    · right
      show base_Number_b1 s i = _
      rw [hB, if_neg hdg, if_neg (fun h => hdg (List.all_eq_true.1 h c hmem))]
  · right
    show base_Number_b1 s i = _
    unfold base_Number_b1
    rw [if_neg hi]
    rw [List.take_of_length_le (by omega)] at h2
    rw [if_pos h2]
theorem atoiO_eq {s : Str} {n : Int} (hl : s.length ≤ 18) (h : Lib.atoi s = some n) : atoiO s = some (n, true) := by
  unfold atoiO; rw [if_pos (by omega), atoiAll_of hl h]
/-- The program's reader of numbers. -/
theorem Number_eq (s : Str) (k : Nat) (hk : k ≤ 17) : base_Number s k = some (match numT s k with | some n => (n, true) | none => (0, false)) := by
  have hln := trimP_length s
  unfold base_Number base_Number_j1
  by_cases h1 : Lib.trimPrefix s [45] = []
  · rw [if_pos h1, if_pos rfl]; unfold numT; rw [if_pos (.inl (.inl h1))]
  · rw [if_neg h1]
    by_cases h2 : (k : Int) < (Lib.trimPrefix s [45]).length
    · rw [if_pos h2, if_pos rfl]; unfold numT; rw [if_pos (.inl (.inr h2))]
    · rw [if_neg h2]
      have hpos : 0 < (Lib.trimPrefix s [45]).length := List.length_pos_iff.2 h1
      obtain ⟨c, hc, _, _⟩ := idx_lt (Lib.trimPrefix s [45]) (i := 0) (by omega) (by omega)
      have hh : (Lib.trimPrefix s [45]).head? = some c := by
        have := (idx_some hc).2.2
        rw [List.head?_eq_getElem?]; simpa using this
      rw [hc]
      simp only [Option.bind_some]
      rw [Number_loop s (by omega)]
      by_cases hall : (Lib.trimPrefix s [45]).all isDig = true
      · obtain ⟨n, hn, hiff⟩ := atoi_digs h1 hall
        have hnT : numT s k = if Lib.itoa n = s then some n else none := by
          unfold numT; rw [if_neg (by rintro ((h | h) | h)
                                      · exact h1 h
                                      · exact h2 h
                                      · rw [hall] at h; cases h), hn]
        have hcond : (decide ((c.toNat : Int) = 48) && (decide ((1 : Int) < (Lib.trimPrefix s [45]).length) || decide (((Lib.trimPrefix s [45]).length : Int) < s.length))) = true ↔ ¬ Lib.itoa n = s := by
          rw [hiff, hh]
          simp only [Bool.and_eq_true, decide_eq_true_eq, Bool.or_eq_true, Option.some.injEq, Classical.not_not]
          constructor
          · rintro ⟨a, b⟩; exact ⟨UInt8.toNat_inj.1 (by simpa using (by omega : c.toNat = 48)), by omega⟩
          · rintro ⟨a, b⟩; exact ⟨by rw [a]; rfl, by omega⟩
        by_cases hi : Lib.itoa n = s
        · rw [if_neg (fun h => hcond.1 h hi), if_pos hall, hnT, if_pos hi]
          unfold base_Number_k3
          rw [atoiO_eq (by omega) hn]; rfl
        · rw [if_pos (hcond.2 hi), hnT, if_neg hi]
      · have hnT : numT s k = none := by unfold numT; rw [if_pos (.inr (by simpa using hall))]
        rw [hnT, if_neg hall]; simp
end Go.Beacon

/- Versions and images: checks, order, texts. No program in sight. -/
set_option linter.unusedVariables false
set_option linter.unusedSimpArgs false
namespace Go.Beacon
open Go Go.Eng

/-! order -/
def vcmp (a b : Version) : Int := orL [cmpI a.Major b.Major, cmpI a.Minor b.Minor, cmpI a.Patch b.Patch]
theorem vCompare_eq (a b : Version) : campaign_Compare a b = some (vcmp a b) := by
  unfold campaign_Compare
  have h : cmp_Or_int [cmp_Compare_int a.Major b.Major, cmp_Compare_int a.Minor b.Minor, cmp_Compare_int a.Patch b.Patch] = some (orL [cmp_Compare_int a.Major b.Major, cmp_Compare_int a.Minor b.Minor, cmp_Compare_int a.Patch b.Patch]) := gOr_eq _ (by simp)
  rw [h, CompareI_eq, CompareI_eq, CompareI_eq]; rfl
/-! checks -/
def verB (v : Version) : Bool := (decide (0 ≤ v.Major) && decide (v.Major ≤ 9999)) && (decide (0 ≤ v.Minor) && decide (v.Minor ≤ 9999)) && (decide (0 ≤ v.Patch) && decide (v.Patch ≤ 9999))
theorem Version_chk (v : Version) : base_Version v = verB v := by
  unfold base_Version base_Version_j1 verB
  rw [Out_eq, Out_eq, Out_eq, Bool.eq_iff_iff]
  simp; omega
theorem Qver_eq (v : Version) : Q_versionFault v = if verB v = true then 0 else 1 := by
  unfold Q_versionFault Q_versionFault_j1
  rw [Qin_eq, Qin_eq, Qin_eq]
  by_cases h : verB v = true
  · rw [if_pos h, if_neg]; unfold verB at h; simp at h ⊢; omega
  · rw [if_neg h, if_pos]; unfold verB at h; simp at h ⊢; omega
/-- Several numbers. -/
def numsT (k : Int) : List Str → Option (List Int)
  | [] => some []
  | w :: r => match numT w k, numsT k r with
    | some n, some l => some (n :: l)
    | _, _ => none
theorem Numbers_loop (ws : List Str) (k : Nat) (hk : k ≤ 17) (hl : ws.length ≤ 100000000) : ∀ (m : Nat) (l : List Int) (i : Int), 0 ≤ i → i + m = ws.length → (l.length : Int) = i →
    base_Numbers_l1 ws k l i = some (match numsT k (ws.drop i.toNat) with | some r => (l ++ r, true) | none => ([], false))
  | 0, l, i, h0, hm, he => by
    unfold base_Numbers_l1
    rw [iter_eq, base_Numbers_b1, if_neg (by simp only; omega), map_inr_after, List.drop_of_length_le (by omega)]
    simp [numsT]
  | m + 1, l, i, h0, hm, he => by
    have ih := Numbers_loop ws k hk hl m
    unfold base_Numbers_l1 at ih ⊢
    obtain ⟨w, hw, _, hd⟩ := idx_lt ws h0 (by omega)
    rw [iter_eq, base_Numbers_b1, if_pos (by simp only; omega)]
    simp only [hw, Option.bind_some]
    rw [Number_eq w k hk, hd, numsT]
    simp only [Option.bind_some]
    cases hn : numT w k with
    | none => simp [after]
    | some n =>
      simp only [Bool.not_true, Bool.false_eq_true, if_false]
      rw [app_le (by simp; omega)]
      simp only [Option.bind_some, after_inl]
      rw [w64_in (by omega) (by omega), ih (l ++ [n]) (i + 1) (by omega) (by omega) (by simp; omega)]
      cases numsT k (ws.drop (i + 1).toNat) with
      | none => rfl
      | some r => simp
theorem Numbers_eq (ws : List Str) (k : Nat) (hk : k ≤ 17) (hl : ws.length ≤ 100000000) : base_Numbers ws k = some (match numsT k ws with | some r => (r, true) | none => ([], false)) := by
  unfold base_Numbers
  rw [Numbers_loop ws k hk hl ws.length [] 0 (by omega) (by omega) (by simp)]
  simp
/-- The version that a string spells. -/
def verOf (s : Str) : Option Version := match numsT 4 (splitC 46 s) with
  | some [x, y, z] => if 0 ≤ x ∧ 0 ≤ y ∧ 0 ≤ z then some ⟨x, y, z⟩ else none
  | _ => none
theorem len3 {α : Type} : ∀ {l : List α}, l.length = 3 → ∃ a b c, l = [a, b, c]
  | [a, b, c], _ => ⟨a, b, c, rfl⟩
theorem numsT_bound {k : Nat} : ∀ {ws : List Str} {l : List Int}, numsT k ws = some l → ∀ x ∈ l, -(10 ^ k : Nat) < x ∧ x < (10 ^ k : Nat)
  | [], l, h => by simp [numsT] at h; subst h; simp
  | w :: r, l, h => by
    rw [numsT] at h
    cases h1 : numT w k with
    | none => rw [h1] at h; simp at h
    | some n =>
      cases h2 : numsT k r with
      | none => rw [h1, h2] at h; simp at h
      | some t =>
        rw [h1, h2] at h
        simp only [Option.some.injEq] at h; subst h
        intro x hx
        rcases List.mem_cons.1 hx with rfl | hx
        · exact numT_bound h1
        · exact numsT_bound h2 x hx
theorem Parse_eq (s : Str) (hs : s.length ≤ 1000000) : campaign_ParseVersion s = some (match verOf s with | some v => (v, 0) | none => (⟨0, 0, 0⟩, 9)) := by
  unfold campaign_ParseVersion
  have hl := splitC_length 46 s
  rw [splitO_eq (by omega)]
  simp only [Option.bind_some]
  rw [show (4 : Int) = ((4 : Nat) : Int) from rfl, Numbers_eq _ 4 (by omega) (by omega)]
  simp only [Option.bind_some]
  unfold campaign_ParseVersion_j1 verOf
  rw [show (4 : Int) = ((4 : Nat) : Int) from rfl]
  generalize hN : numsT ((4 : Nat) : Int) (splitC 46 s) = o
  cases o with
  | none => rfl
  | some l =>
    by_cases h3 : l.length = 3
    · obtain ⟨x, y, z, rfl⟩ := len3 h3
      have bd := numsT_bound hN
      have bx := bd x (by simp)
      have by_ := bd y (by simp)
      have bz := bd z (by simp)
      simp only [Bool.not_true, Bool.false_or]
      rw [if_neg (by simp)]
      have e0 : idx [x, y, z] 0 = some x := rfl
      have e1 : idx [x, y, z] 1 = some y := rfl
      have e2 : idx [x, y, z] 2 = some z := rfl
      rw [e0, e1, e2]
      simp only [Option.bind_some, Version_chk]
      by_cases hp : 0 ≤ x ∧ 0 ≤ y ∧ 0 ≤ z
      · rw [if_pos hp, if_neg]
        unfold verB; simp; omega
      · rw [if_neg hp, if_pos]
        unfold verB; simp; omega
    · simp only
      rw [if_pos (by simp; omega)]
      split
      · rename_i v e
        split at e
        · rename_i e2; obtain rfl := Option.some.inj e2; simp at h3
        · cases e
      · rfl
theorem versioned_eq : L_versioned = some true := by
  unfold L_versioned
  rw [Parse_eq _ (by simp)]
  have h : verOf [49, 46, 50, 46, 51] = some ⟨1, 2, 3⟩ := by
    have e : splitC 46 [49, 46, 50, 46, 51] = [[49], [50], [51]] := by decide
    have i1 : Lib.itoa 1 = [49] := by unfold Lib.itoa; rw [if_neg (by omega), Lib.decDigits, dif_pos (by decide)]; rfl
    have i2 : Lib.itoa 2 = [50] := by unfold Lib.itoa; rw [if_neg (by omega), Lib.decDigits, dif_pos (by decide)]; rfl
    have i3 : Lib.itoa 3 = [51] := by unfold Lib.itoa; rw [if_neg (by omega), Lib.decDigits, dif_pos (by decide)]; rfl
    have n1 := numT_itoa (n := 1) (k := 4) (by rw [Lib.decDigits, dif_pos (by decide)]; simp)
    have n2 := numT_itoa (n := 2) (k := 4) (by rw [Lib.decDigits, dif_pos (by decide)]; simp)
    have n3 := numT_itoa (n := 3) (k := 4) (by rw [Lib.decDigits, dif_pos (by decide)]; simp)
    rw [i1] at n1; rw [i2] at n2; rw [i3] at n3
    unfold verOf
    rw [e]
    simp [numsT, n1, n2, n3]
  rw [h]
  simp [L_versioned_j1]
end Go.Beacon

/- Marks: their order, checks, Merge. No program in sight. -/
set_option linter.unusedVariables false
set_option linter.unusedSimpArgs false
namespace Go.Beacon
open Go Go.Eng

/-! the order -/
def mO (a b : MarkS) : Int := if cmpI a.At b.At ≠ 0 then cmpI a.At b.At else Lib.compareBytes a.Device b.Device
theorem mO_3 : Cmp3 mO := (cmpI_3.on MarkS.At).lex (cmpB_3.on MarkS.Device)
theorem byMoment_eq (a b : MarkS) : campaign_byMoment a b = some (mO a b) := by
  unfold campaign_byMoment
  rw [CompareI_eq]
  have h : cmp_Or_int [cmpI a.At b.At, Lib.compareBytes a.Device b.Device] = some (orL [cmpI a.At b.At, Lib.compareBytes a.Device b.Device]) := gOr_eq _ (by simp)
  rw [h, orL2]; rfl
def MB (x : MarkS) : Prop := -4000000000000000000 ≤ x.At ∧ x.At ≤ 4000000000000000000
theorem MarkOrder_eq {a b : MarkS} (ha : MB a) (hb : MB b) : Q_MarkOrder a b = mO a b := by
  unfold MB at ha hb
  unfold Q_MarkOrder mO
  rw [w64_in (by omega) (by omega)]
  have e : Q_sign (a.At - b.At) = cmpI a.At b.At := by
    unfold Q_sign cmpI
    repeat' split
    all_goals omega
  rw [e]
  by_cases h1 : a.At = b.At
  · have : cmpI a.At b.At = 0 := by unfold cmpI; rw [if_neg (by omega), if_neg (by omega)]
    rw [if_neg (fun z : a.At ≠ b.At => z h1), if_neg (fun z => z this)]
  · rw [if_pos h1, if_pos (fun h => h1 (cmpI_zero h))]
theorem morder_B {xs : List MarkS} (hB : ∀ x ∈ xs, MB x) : ∀ x ∈ xs, ∀ y ∈ xs, Q_MarkOrder x y = mO x y := fun x hx y hy => MarkOrder_eq (hB x hx) (hB y hy)
theorem vcmp_3 : Cmp3 vcmp := by
  have h : Cmp3 (fun a b : Version => if (if cmpI a.Major b.Major ≠ 0 then cmpI a.Major b.Major else cmpI a.Minor b.Minor) ≠ 0 then (if cmpI a.Major b.Major ≠ 0 then cmpI a.Major b.Major else cmpI a.Minor b.Minor) else cmpI a.Patch b.Patch) :=
    ((cmpI_3.on Version.Major).lex (cmpI_3.on Version.Minor)).lex (cmpI_3.on Version.Patch)
  have e : vcmp = fun a b : Version => if (if cmpI a.Major b.Major ≠ 0 then cmpI a.Major b.Major else cmpI a.Minor b.Minor) ≠ 0 then (if cmpI a.Major b.Major ≠ 0 then cmpI a.Major b.Major else cmpI a.Minor b.Minor) else cmpI a.Patch b.Patch := by
    funext a b
    unfold vcmp
    rw [orL3, orL2]
  rw [e]; exact h
def fO (a b : MarkS) : Int := if (if mO a b ≠ 0 then mO a b else cmpI a.Kind b.Kind) ≠ 0 then (if mO a b ≠ 0 then mO a b else cmpI a.Kind b.Kind) else vcmp a.Version b.Version
theorem fO_3 : Cmp3 fO := (mO_3.lex (cmpI_3.on MarkS.Kind)).lex (vcmp_3.on MarkS.Version)
theorem Merge1_eq (a b : MarkS) : campaign_Merge_1x a b = some (fO a b) := by
  unfold campaign_Merge_1x
  rw [byMoment_eq, vCompare_eq]
  simp only [Option.bind_some]
  rw [CompareI_eq]
  have h : cmp_Or_int [mO a b, cmpI a.Kind b.Kind, vcmp a.Version b.Version] = some (orL [mO a b, cmpI a.Kind b.Kind, vcmp a.Version b.Version]) := gOr_eq _ (by simp)
  rw [h, orL3, orL2]; rfl
theorem fO_mO {a b : MarkS} (h : mO a b < 0) : fO a b < 0 := by
  have hn : mO a b ≠ 0 := by omega
  unfold fO
  rw [if_pos hn, if_pos hn]; exact h
theorem srt_fm {Z : List MarkS} (h : Srt fO Z) : Srt mO Z := h.imp fun hab hba => hab (fO_mO hba)
/-! the checks -/
def momB (n : Int) : Bool := decide (0 ≤ n) && decide (n ≤ 345686399999)
def markBad (s : MarkS) : Int := if momB s.At = false then 1 else if keyB s.Device = false then 5 else if s.Kind < 1 ∨ 5 < s.Kind then 4 else if verB s.Version = false then 1 else 0
def markStep (prev : Option MarkS) (s : MarkS) : Int := if markBad s ≠ 0 then markBad s else match prev with
  | none => 0
  | some p => if mO s p ≤ 0 then 7 else 0
def chkM (xs : List MarkS) : Int := if (3000 : Int) < xs.length then 2 else scanC markStep none xs
theorem CheckMarks_eq (xs : List MarkS) : campaign_CheckMarks xs = some (chkM xs) := by
  unfold campaign_CheckMarks chkM
  split
  · rfl
  · rename_i hl
    unfold campaign_CheckMarks_l1
    refine scan_all markStep xs _ (fun {i s} h0 h1 hs => ?_) (by show campaign_CheckMarks_b1 xs _ = _; rw [campaign_CheckMarks_b1, if_neg (by omega)]; rfl)
    show campaign_CheckMarks_b1 xs i = _
    rw [campaign_CheckMarks_b1, if_pos h1, hs]
    simp only [Option.bind_some, Key_eq]
    rw [Moment_eq, show (decide (0 ≤ s.At) && decide (s.At ≤ 345686399999)) = momB s.At from rfl, Version_chk, Out_eq]
    unfold markStep markBad
    cases hm : momB s.At
    · simp
    · simp only [Bool.not_true, Bool.false_eq_true, if_false, Bool.true_eq_false]
      cases hk : keyB s.Device
      · simp
      · simp only [Bool.not_true, Bool.false_eq_true, if_false, Bool.true_eq_false]
        rw [show (decide (s.Kind < 1) || decide (5 < s.Kind)) = decide (s.Kind < 1 ∨ 5 < s.Kind) by rw [Bool.eq_iff_iff]; simp]
        by_cases h3 : s.Kind < 1 ∨ 5 < s.Kind
        · rw [decide_eq_true h3, if_pos rfl, if_pos h3]; simp
        · rw [decide_eq_false h3, if_neg Bool.false_ne_true, if_neg h3]
          cases hv : verB s.Version
          · simp
          · simp only [Bool.not_true, Bool.false_eq_true, if_false, Bool.true_eq_false, ne_eq, not_true_eq_false]
            unfold campaign_CheckMarks_j1
            rw [w64_in (x := i + 1) (by omega) (by omega)]
            by_cases hi : 0 < i
            · obtain ⟨p, hp, _, _⟩ := idx_lt xs (i := i - 1) (by omega) (by omega)
              have hpa : prevOf xs i = some p := by unfold prevOf; rw [if_neg (by omega), hp]
              rw [hpa, if_pos hi, w64_in (by omega) (by omega), hp]
              simp only [Option.bind_some, byMoment_eq]
              by_cases hb : mO s p ≤ 0
              · simp [hb]
              · simp [hb]
            · have hpa : prevOf xs i = none := by unfold prevOf; rw [if_pos (by omega)]
              rw [hpa, if_neg hi]; simp
theorem MarksFault_eq (xs : List MarkS) (hB : ∀ x ∈ xs, MB x) : Q_MarksFault xs = some (chkM xs) := by
  unfold Q_MarksFault chkM
  split
  · rfl
  · rename_i hl
    unfold Q_MarksFault_l1
    refine scan_all markStep xs _ (fun {i s} h0 h1 hs => ?_) (by show Q_MarksFault_b1 xs _ = _; rw [Q_MarksFault_b1, if_neg (by omega)]; rfl)
    show Q_MarksFault_b1 xs i = _
    rw [Q_MarksFault_b1, if_pos h1, hs]
    simp only [Option.bind_some, QKey_eq]
    rw [QMoment_eq, show (decide (0 ≤ s.At) && decide (s.At ≤ 345686399999)) = momB s.At from rfl, Qver_eq, Qin_eq]
    unfold markStep markBad
    cases hm : momB s.At
    · simp
    · simp only [Bool.not_true, Bool.false_eq_true, if_false, Bool.true_eq_false]
      cases hk : keyB s.Device
      · simp
      · simp only [Bool.not_true, Bool.false_eq_true, if_false, Bool.true_eq_false]
        rw [show (!(decide (1 ≤ s.Kind) && decide (s.Kind ≤ 5))) = decide (s.Kind < 1 ∨ 5 < s.Kind) by rw [Bool.eq_iff_iff]; simp [Int.not_le]]
        by_cases h3 : s.Kind < 1 ∨ 5 < s.Kind
        · rw [decide_eq_true h3, if_pos rfl, if_pos h3]; simp
        · rw [decide_eq_false h3, if_neg Bool.false_ne_true, if_neg h3]
          cases hv : verB s.Version
          · simp
          · simp only [Bool.not_true, Bool.false_eq_true, if_false, Bool.true_eq_false, if_true, ne_eq, not_true_eq_false]
            unfold Q_MarksFault_j1
            rw [w64_in (x := i + 1) (by omega) (by omega)]
            by_cases hi : 0 < i
            · obtain ⟨p, hp, hpm, _⟩ := idx_lt xs (i := i - 1) (by omega) (by omega)
              have hpa : prevOf xs i = some p := by unfold prevOf; rw [if_neg (by omega), hp]
              rw [hpa, if_pos hi, w64_in (by omega) (by omega), hp]
              simp only [Option.bind_some]
              rw [morder_B hB p hpm s (idx_mem hs), mO_3.neg p s]
              by_cases hb : mO s p ≤ 0
              · rw [decide_eq_true (by omega)]; simp [hb]
              · rw [decide_eq_false (by omega)]; simp [hb]
            · have hpa : prevOf xs i = none := by unfold prevOf; rw [if_pos (by omega)]
              rw [hpa, if_neg hi]; simp
/-! sorting and compacting -/
def ZM : MarkS := ⟨0, [], 0, ⟨0, 0, 0⟩⟩
theorem mstable_len (f : MarkS → MarkS → Option Int) (xs : List MarkS) (hl : (xs.length : Int) < 20) (hf : ∀ x ∈ xs, ∀ y ∈ xs, f x y = some (mO x y)) : ∃ Z, lenOk xs.length (fun r : List MarkS => r.length) (slices_SortStableFunc_Mark_Mark xs f) = some Z ∧ Z.Perm xs ∧ Srt mO Z := by
  obtain ⟨Z, h1, h2, h3⟩ := gIns_eq f mO xs (by omega) hf (mO_3.ord xs)
  have h1' : slices_insertionSortCmpFunc_Mark xs 0 xs.length f = some Z := h1
  have hlen := h2.length_eq
  refine ⟨Z, ?_, h2, h3⟩
  have hs : slices_stableCmpFunc_Mark xs xs.length f = some Z := by
    unfold slices_stableCmpFunc_Mark slices_stableCmpFunc_Mark_l1
    rw [iter_eq, slices_stableCmpFunc_Mark_b1, if_neg (by simp only; omega), map_inr_after]
    unfold slices_stableCmpFunc_Mark_k3
    simp only
    rw [len_ok h1' hlen]
    simp only [Option.bind_some]
    unfold slices_stableCmpFunc_Mark_l2
    rw [iter_eq, slices_stableCmpFunc_Mark_b2, if_neg (by simp only; omega), map_inr_after]
  refine len_ok ?_ hlen
  unfold slices_SortStableFunc_Mark_Mark
  rw [len_ok hs hlen]; rfl
theorem msort_len (xs : List MarkS) (hl : (xs.length : Int) < 20) : ∃ Z, lenOk xs.length (fun r : List MarkS => r.length) (slices_SortFunc_Mark_Mark xs (fun y0 y1 => campaign_Merge_1x y0 y1)) = some Z ∧ Z.Perm xs ∧ Srt mO Z := by
  obtain ⟨Z, h1, h2, h3⟩ := sortO_eq (fun y0 y1 => campaign_Merge_1x y0 y1) fO xs (by omega) (fun a _ b _ => Merge1_eq a b) (fO_3.ord xs)
  exact ⟨Z, len_ok h1 h2.length_eq, h2, srt_fm h3⟩
theorem mcompact_eq (xs : List MarkS) (hl : (xs.length : Int) ≤ 100000) : slices_Compact_Mark_Mark xs = some (dd eqB xs) := gCpt_eq ZM xs hl
theorem mcompactF_eq (f : MarkS → MarkS → Option Bool) (e : MarkS → MarkS → Bool) (xs : List MarkS) (hl : (xs.length : Int) ≤ 100000) (hf : ∀ x ∈ xs, ∀ y ∈ xs, f x y = some (e x y)) : slices_CompactFunc_Mark_Mark xs f = some (dd e xs) := gCptF_eq ZM f e xs hl hf
theorem mgrow_eq {n : Int} (h0 : 0 ≤ n) (h1 : n ≤ 100000) : slices_Grow_Mark_Mark_n0x n = some [] := by
  unfold slices_Grow_Mark_Mark_n0x slices_Grow_Mark_Mark_n0x_j1
  rw [show w64 (0 - 0) = 0 by decide, show n - 0 = n by omega, w64_in (by omega) (by omega), if_neg (by omega)]
  by_cases h : 0 < n
  · rw [if_pos h, slc_in (by omega) (by omega) (by simp)]
    unfold mkS
    rw [if_pos (by omega)]
    simp only [Option.bind_some]
    rw [slc_in (by omega) (by omega) (by omega)]
    simp
  · rw [if_neg h]
theorem mconcat_eq (a b : List MarkS) (ha : (a.length : Int) ≤ 1000) (hb : (b.length : Int) ≤ 1000) : slices_Concat_Mark_Mark [a, b] = some (a ++ b) := by
  have i0 : idx [a, b] 0 = some a := rfl
  have i1 : idx [a, b] 1 = some b := rfl
  have u0 : w64 (0 + 1) = 1 := by decide
  have u1 : w64 (1 + 1) = 2 := by decide
  unfold slices_Concat_Mark_Mark slices_Concat_Mark_Mark_l1
  rw [iter_eq, slices_Concat_Mark_Mark_b1, if_pos (by simp), i0]
  simp only [Option.bind_some]
  rw [show (0 : Int) + (a.length : Int) = a.length by omega, w64_in (by omega) (by omega), if_neg (by omega), u0]
  simp only [Option.bind_some, after_inl]
  rw [iter_eq, slices_Concat_Mark_Mark_b1, if_pos (by simp), i1]
  simp only [Option.bind_some]
  rw [w64_in (by omega) (by omega), if_neg (by omega), u1]
  simp only [Option.bind_some, after_inl]
  rw [iter_eq, slices_Concat_Mark_Mark_b1, if_neg (by simp), map_inr_after]
  unfold slices_Concat_Mark_Mark_k1
  simp only
  rw [mgrow_eq (by omega) (by omega)]
  simp only [Option.bind_some]
  unfold slices_Concat_Mark_Mark_l2
  rw [iter_eq, slices_Concat_Mark_Mark_b2, if_pos (by simp), i0]
  simp only [Option.bind_some]
  rw [app_le (by simp; omega), u0]
  simp only [Option.bind_some, after_inl]
  rw [iter_eq, slices_Concat_Mark_Mark_b2, if_pos (by simp), i1]
  simp only [Option.bind_some]
  rw [app_le (by simp; omega), u1]
  simp only [Option.bind_some, after_inl]
  rw [iter_eq, slices_Concat_Mark_Mark_b2, if_neg (by simp), map_inr_after]
  simp
/-! Merge -/
theorem mmerge_loop (v : List MarkS) (hl : (v.length : Int) ≤ 2000) (hB : ∀ x ∈ v, MB x) : ∀ (n : Nat) (i : Int), 1 ≤ i → (v.length : Int) ≤ i + n → i ≤ 2001 →
    campaign_Merge_l1 v i = some (if adjC mO (v.drop (i - 1).toNat) = true then ([], 13) else (v, 0)) ∧ Q_MarksOf_l1 v i = some (if adjC mO (v.drop (i - 1).toNat) = true then ([], 13) else (v, 0)) := by
  have fin : ∀ i : Int, 1 ≤ i → ¬ i < v.length → campaign_Merge_l1 v i = some (if adjC mO (v.drop (i - 1).toNat) = true then ([], 13) else (v, 0)) ∧ Q_MarksOf_l1 v i = some (if adjC mO (v.drop (i - 1).toNat) = true then ([], 13) else (v, 0)) := by
    intro i h1 hi
    rw [adjC_end mO h1 (by omega)]
    refine ⟨?_, ?_⟩
    · unfold campaign_Merge_l1
      rw [iter_eq, campaign_Merge_b1, if_neg (by omega), map_inr_after]
      unfold campaign_Merge_k1
      rw [if_neg (by omega)]; rfl
    · unfold Q_MarksOf_l1
      rw [iter_eq, Q_MarksOf_b1, if_neg (by omega), map_inr_after]
      unfold Q_MarksOf_k2
      rw [if_neg (by omega)]; rfl
  intro n
  induction n with
  | zero =>
    intro i h1 h2 h3
    exact fin i h1 (by omega)
  | succ n ih =>
    intro i h1 h2 h3
    by_cases hi : i < v.length
    · obtain ⟨x, y, hx, hy, hxm, hym, hd1, hd2⟩ := two_in h1 hi
      obtain ⟨g1, g2⟩ := ih (i + 1) (by omega) (by omega) (by omega)
      rw [show i + 1 - 1 = i by omega, hd2] at g1 g2
      have hw : w64 (i - 1) = i - 1 := w64_in (by omega) (by omega)
      have hw1 : w64 (i + 1) = i + 1 := w64_in (by omega) (by omega)
      have hc : adjC mO (x :: y :: v.drop (i + 1).toNat) = if mO x y = 0 then true else adjC mO (y :: v.drop (i + 1).toNat) := by
        by_cases h0 : mO x y = 0
        · rw [if_pos h0]; simp [adjC, h0]
        · rw [if_neg h0]; simp [adjC, h0]
      rw [hd1, hc]
      refine ⟨?_, ?_⟩
      · unfold campaign_Merge_l1 at g1 ⊢
        rw [iter_eq, campaign_Merge_b1, if_pos hi, hw, hx, hy]
        simp only [Option.bind_some]
        rw [byMoment_eq]
        simp only [Option.bind_some]
        rw [hw1]
        by_cases h0 : mO x y = 0
        · rw [if_pos h0, if_pos h0]; rfl
        · rw [if_neg h0, if_neg h0]; exact g1
      · unfold Q_MarksOf_l1 at g2 ⊢
        rw [iter_eq, Q_MarksOf_b1, if_pos hi, if_pos (by omega), hw, hx, hy]
        simp only [Option.bind_some]
        rw [morder_B hB x hxm y hym]
        unfold Q_MarksOf_j1
        rw [hw1]
        by_cases h0 : mO x y = 0
        · rw [if_pos h0, decide_eq_true h0, if_pos rfl]; rfl
        · rw [if_neg h0, decide_eq_false h0, if_neg (by simp)]; exact g2
    · exact fin i h1 hi
theorem Merges_eq (a b : List MarkS) (ha : (a.length : Int) ≤ 9) (hb : (b.length : Int) ≤ 9) (hA : ∀ x ∈ a, MB x) (hBb : ∀ x ∈ b, MB x) : ∃ t : List MarkS × Int, t.1.length ≤ 1000 ∧ campaign_Merge a b = some (if orL [chkM a, chkM b] ≠ 0 then ([], orL [chkM a, chkM b]) else t) ∧ Q_MarksOf a b = some t := by
  have hxB : ∀ x ∈ a ++ b, MB x := fun x hx => by
    rcases List.mem_append.1 hx with h | h
    · exact hA x h
    · exact hBb x h
  have hl : ((a ++ b).length : Int) < 20 := by simp; omega
  obtain ⟨X, x1, x2, x3⟩ := msort_len (a ++ b) hl
  obtain ⟨Y, y1, y2, y3⟩ := mstable_len (fun y0 y1 => some (Q_MarkOrder y0 y1)) (a ++ b) hl (fun x hx y hy => by rw [morder_B hxB x hx y hy])
  have hXl := x2.length_eq
  have hYl := y2.length_eq
  have hdX := dd_len eqB X
  have hdY := dd_len eqB Y
  have hBX : ∀ x ∈ dd eqB X, MB x := fun x hx => hxB x (x2.mem_iff.1 ((dd_sub _ X).subset hx))
  have hBY : ∀ x ∈ dd eqB Y, MB x := fun x hx => hxB x (y2.mem_iff.1 ((dd_sub _ Y).subset hx))
  have key := mergedC mO_3 13 (x2.trans y2.symm) x3 y3
  refine ⟨mresC mO 13 (dd eqB X), ?_, ?_, ?_⟩
  · unfold mresC
    split
    · simp
    · simp only; omega
  · unfold campaign_Merge
    rw [CheckMarks_eq, CheckMarks_eq]
    simp only [Option.bind_some]
    rw [First_eq _ (by simp)]
    simp only [Option.bind_some]
    by_cases h : orL [chkM a, chkM b] ≠ 0
    · rw [if_pos h, if_pos h]
    · rw [if_neg h, if_neg h, mconcat_eq a b (by omega) (by omega)]
      simp only [Option.bind_some]
      rw [x1]
      simp only [Option.bind_some]
      rw [mcompact_eq X (by omega)]
      simp only [Option.bind_some]
      have := (mmerge_loop (dd eqB X) (by omega) hBX (dd eqB X).length 1 (by omega) (by omega) (by omega)).1
      rw [show ((1 : Int) - 1).toNat = 0 by omega, List.drop_zero] at this
      rw [this]; rfl
  · unfold Q_MarksOf
    rw [mconcat_eq a b (by omega) (by omega)]
    simp only [Option.bind_some]
    rw [y1]
    simp only [Option.bind_some]
    rw [mcompact_eq Y (by omega)]
    simp only [Option.bind_some]
    have h1 := (mmerge_loop (dd eqB Y) (by omega) hBY (dd eqB Y).length 1 (by omega) (by omega) (by omega)).2
    rw [show ((1 : Int) - 1).toNat = 0 by omega, List.drop_zero] at h1
    have h0 : Q_MarksOf_l1 (dd eqB Y) 0 = Q_MarksOf_l1 (dd eqB Y) 1 ∨ dd eqB Y = [] := by
      by_cases hn : 0 < ((dd eqB Y).length : Int)
      · left
        conv => lhs; unfold Q_MarksOf_l1
        rw [iter_eq]
        show Option.bind (Q_MarksOf_b1 (dd eqB Y) 0) _ = _
        rw [Q_MarksOf_b1, if_pos hn, if_neg (by omega)]
        unfold Q_MarksOf_j1
        rw [if_neg (by simp)]
        rfl
      · right; exact List.length_eq_zero_iff.1 (by omega)
    rcases h0 with h0 | h0
    · rw [h0, h1, key]; rfl
    · rw [key, h0]
      unfold Q_MarksOf_l1
      rw [iter_eq, Q_MarksOf_b1, if_neg (by simp), map_inr_after]
      unfold Q_MarksOf_k2
      rw [if_neg (by simp)]; rfl
end Go.Beacon

/- Campaigns: checks of campaigns and fleets, waves. No program in sight. -/
set_option linter.unusedVariables false
set_option linter.unusedSimpArgs false
namespace Go.Beacon
open Go Go.Eng

/-! fleets -/
def kbad (x : DeviceS) : Prop := keyB x.Key = false ∨ keyB x.Model = false ∨ keyB x.Tenant = false
instance (x : DeviceS) : Decidable (kbad x) := by unfold kbad; infer_instance
def devBad (p : Option DeviceS) (x : DeviceS) : Bool := match p with
  | none => false
  | some q => Op.bytesLess x.Key q.Key || x.Key == q.Key
def devStep (p : Option DeviceS) (x : DeviceS) : Int := if kbad x then 5 else if devBad p x = true then 7 else if verB x.Firmware = false then 1 else if (20 : Int) < x.Tags.length then 2 else 0
def chkD (xs : List DeviceS) : Int := if (500 : Int) < xs.length then 2 else scanC devStep none xs
theorem three_keys {α : Type} (x : DeviceS) (f : Bool → α) : (if (!keyB x.Key) = true then f true else if (!keyB x.Model) = true then f true else f (!keyB x.Tenant)) = f (decide (kbad x)) := by
  have h : ∀ a b c : Bool, (if (!a) = true then f true else if (!b) = true then f true else f (!c)) = f (decide (a = false ∨ b = false ∨ c = false)) := by
    intro a b c
    cases a <;> cases b <;> cases c <;> rfl
  rw [show decide (kbad x) = decide (keyB x.Key = false ∨ keyB x.Model = false ∨ keyB x.Tenant = false) from decide_eq_decide.2 Iff.rfl]
  exact h _ _ _
theorem CheckFleet_eq (xs : List DeviceS) : campaign_CheckFleet xs = some (chkD xs) := by
  unfold campaign_CheckFleet chkD
  split
  · rfl
  · rename_i hl
    unfold campaign_CheckFleet_l1
    refine scan_all devStep xs _ (fun {i s} h0 h1 hs => ?_) (by show campaign_CheckFleet_b1 xs _ = _; rw [campaign_CheckFleet_b1, if_neg (by omega)]; rfl)
    show campaign_CheckFleet_b1 xs i = _
    rw [campaign_CheckFleet_b1, if_pos h1, hs]
    simp only [Option.bind_some, Key_eq]
    rw [three_keys s (campaign_CheckFleet_j1 xs i s)]
    unfold campaign_CheckFleet_j1 devStep
    by_cases hb : kbad s
    · rw [decide_eq_true hb, if_pos rfl, if_pos hb]; simp
    · rw [decide_eq_false hb, if_neg Bool.false_ne_true, if_neg hb]
      have hj : (if 0 < i then (idx xs (w64 (i - 1))).bind fun v10 => campaign_CheckFleet_j2 i s (Op.bytesLess s.Key v10.Key || s.Key == v10.Key) else campaign_CheckFleet_j2 i s false) = campaign_CheckFleet_j2 i s (devBad (prevOf xs i) s) := by
        by_cases hi : 0 < i
        · obtain ⟨p, hp, _, _⟩ := idx_lt xs (i := i - 1) (by omega) (by omega)
          have hpa : prevOf xs i = some p := by unfold prevOf; rw [if_neg (by omega), hp]
          rw [hpa, if_pos hi, w64_in (by omega) (by omega), hp]; rfl
        · have hpa : prevOf xs i = none := by unfold prevOf; rw [if_pos (by omega)]
          rw [hpa, if_neg hi]; rfl
      rw [hj]
      unfold campaign_CheckFleet_j2
      rw [Version_chk, w64_in (x := i + 1) (by omega) (by omega)]
      cases devBad (prevOf xs i) s
      · simp only [Bool.false_eq_true, if_false]
        cases verB s.Firmware
        · simp
        · simp only [Bool.not_true, Bool.false_eq_true, if_false, Bool.true_eq_false]
          by_cases ht : (20 : Int) < s.Tags.length
          · rw [if_pos ht, if_pos ht]; simp
          · rw [if_neg ht, if_neg ht]; simp
      · simp
def lastK (p : Option DeviceS) : Str := match p with
  | none => []
  | some n => n.Key
theorem keyB_neC {s : Str} (h : keyB s = true) : s ≠ [] := by
  rintro rfl; simp [keyB] at h
theorem FleetFault_loop (xs : List DeviceS) (hl : (xs.length : Int) ≤ 500) : ∀ (m i : Nat) (p : Option DeviceS), i + m = xs.length → Q_FleetFault_l1 xs (lastK p) i = some (scanC devStep p (xs.drop i)) := by
  intro m
  induction m with
  | zero =>
    intro i p hi
    unfold Q_FleetFault_l1
    rw [iter_eq, Q_FleetFault_b1, if_neg (by simp only; omega), map_inr_after, List.drop_of_length_le (by omega)]
    rfl
  | succ m ih =>
    intro i p hi
    obtain ⟨x, hx, hxm, hd⟩ := idx_lt xs (i := (i : Int)) (by omega) (by omega)
    rw [show ((i : Int)).toNat = i by omega, show ((i : Int) + 1).toNat = i + 1 by omega] at hd
    have w1 : w64 ((i : Int) + 1) = ((i + 1 : Nat) : Int) := by rw [w64_in] <;> omega
    have ih' := ih (i + 1) (some x) (by omega)
    unfold Q_FleetFault_l1 at ih' ⊢
    rw [iter_eq, Q_FleetFault_b1, if_pos (by simp only; omega)]
    simp only [hx, Option.bind_some, QKey_eq, hd, scanC]
    rw [three_keys x (Q_FleetFault_j1 (lastK p) (i : Int) x)]
    unfold Q_FleetFault_j1 devStep
    by_cases hb : kbad x
    · rw [decide_eq_true hb, if_pos rfl, if_pos hb, if_neg (by omega)]; rfl
    · rw [decide_eq_false hb, if_neg Bool.false_ne_true, if_neg hb]
      have hk : keyB x.Key = true := by
        unfold kbad at hb
        cases h : keyB x.Key with
        | true => rfl
        | false => exact absurd (.inl h) hb
      have hd2 : (Op.bytesLess x.Key (lastK p) || x.Key == lastK p) = devBad p x := by
        cases p with
        | some p => rfl
        | none =>
          have hne := keyB_neC hk
          show (Op.bytesLess x.Key [] || x.Key == []) = false
          cases hid : x.Key with
          | nil => exact absurd hid hne
          | cons a b => rfl
      rw [hd2, Qver_eq, w1]
      cases devBad p x
      · simp only [Bool.false_eq_true, if_false]
        cases verB x.Firmware
        · simp [after]
        · simp only [if_true, ne_eq, not_true_eq_false, if_false, Bool.true_eq_false]
          by_cases ht : (20 : Int) < x.Tags.length
          · rw [if_pos ht, if_pos ht, if_neg (by omega)]; rfl
          · rw [if_neg ht, if_neg ht, if_pos rfl]
            simp only [Option.bind_some, after_inl]
            exact ih'
      · simp [after]
theorem FleetFault_eq (xs : List DeviceS) : Q_FleetFault xs = some (chkD xs) := by
  unfold Q_FleetFault chkD
  split
  · rfl
  · rename_i hl
    have := FleetFault_loop xs (by omega) xs.length 0 none (by omega)
    rw [List.drop_zero] at this
    exact this
/-! campaigns -/
theorem notinC (n lo hi : Int) : (!(Q_in n lo hi)) = base_Out n lo hi := by
  rw [Qin_eq, Out_eq, Bool.eq_iff_iff]; simp [Int.not_le]
theorem Campaign_chk (c : Campaign) : Q_CampaignFault c = campaign_CheckCampaign c := by
  unfold campaign_CheckCampaign Q_CampaignFault
  rw [Key_eq, QKey_eq]
  simp only [Option.bind_some]
  rw [Version_chk, Qver_eq, Moment_eq, QMoment_eq]
  have hl : Q_CampaignFault_l1 c 0 0 = campaign_CheckCampaign_l1 c 0 0 := by
    unfold campaign_CheckCampaign_l1 Q_CampaignFault_l1
    refine iter_same (fun s => ?_) _
    unfold campaign_CheckCampaign_b1 Q_CampaignFault_b1 campaign_CheckCampaign_j2 Q_CampaignFault_j1 campaign_CheckCampaign_k4 Q_CampaignFault_k3 campaign_CheckCampaign_j3 Q_CampaignFault_j2
    simp only [notinC]
  unfold campaign_CheckCampaign_j1
  rw [hl]
  cases keyB c.Key
  · rfl
  · simp only [Bool.not_true, Bool.false_eq_true, if_false]
    cases verB c.Target
    · simp
    · simp only [if_true, ne_eq, not_true_eq_false, if_false, Bool.not_true, Bool.false_or]
def pSum (l : List Wave) : Int := (l.map Wave.Part).sum
theorem pSum_B : ∀ l : List Wave, (∀ w ∈ l, 1 ≤ w.Part ∧ w.Part ≤ 1000) → 0 ≤ pSum l ∧ pSum l ≤ 1000 * l.length
  | [], _ => by simp [pSum]
  | w :: l, h => by
    have h1 := pSum_B l (fun x hx => h x (List.mem_cons_of_mem _ hx))
    have h2 := h w (by simp)
    unfold pSum at h1 ⊢
    rw [List.map_cons, List.sum_cons, List.length_cons]
    omega
theorem pSum_snoc {l : List Wave} {n : Nat} (h : n < l.length) : pSum (l.take (n + 1)) = pSum (l.take n) + l[n].Part := by
  rw [List.take_succ_eq_append_getElem h]; unfold pSum; rw [List.map_append, List.sum_append, List.map_cons, List.map_nil, List.sum_cons, List.sum_nil, Int.add_zero]
structure CRight (c : Campaign) : Prop where
  key : keyB c.Key = true
  len : c.Waves.length ≤ 20
  part : ∀ w ∈ c.Waves, 1 ≤ w.Part ∧ w.Part ≤ 1000
  sum : pSum c.Waves = 1000
theorem Campaign_ends (c : Campaign) : Ok (campaign_CheckCampaign c) (fun r => r = 0 → CRight c) := by
  unfold campaign_CheckCampaign
  rw [Key_eq]
  simp only [Option.bind_some]
  cases hk : keyB c.Key
  · exact Ok.ret (fun h => absurd h (by omega))
  · rw [if_neg (by simp)]
    unfold campaign_CheckCampaign_j1
    split
    · exact Ok.ret (fun h => absurd h (by omega))
    · split
      · exact Ok.ret (fun h => absurd h (by omega))
      · split
        · exact Ok.ret (fun h => absurd h (by omega))
        · rename_i hlen
          unfold campaign_CheckCampaign_l1
          refine Ok.iter (fun x : Int × Int => (c.Waves.length - x.2).toNat) (fun x : Int × Int => 0 ≤ x.2 ∧ x.2 ≤ c.Waves.length ∧ x.1 = pSum (c.Waves.take x.2.toNat) ∧ ∀ w ∈ c.Waves.take x.2.toNat, 1 ≤ w.Part ∧ w.Part ≤ 1000) ?_ _ ⟨by simp, by simp, by simp [pSum], by simp⟩
          rintro ⟨S, n⟩ ⟨g0, g1, g2, g3⟩
          simp only at g0 g1 g2 g3 ⊢
          have hS := pSum_B _ g3
          rw [← g2] at hS
          have htl : (c.Waves.take n.toNat).length ≤ 20 := by simp; omega
          unfold campaign_CheckCampaign_b1
          by_cases hn : n < c.Waves.length
          · rw [if_pos hn]
            obtain ⟨w, hw, hm, _⟩ := idx_lt c.Waves g0 hn
            obtain ⟨hn', hg'⟩ := List.getElem?_eq_some_iff.1 (idx_some hw).2.2
            rw [hw]
            simp only [Option.bind_some]
            unfold campaign_CheckCampaign_j2
            split
            · exact Ok.inr (Ok.ret (fun h => absurd h (by omega)))
            · rename_i ho
              have hp : 1 ≤ w.Part ∧ w.Part ≤ 1000 := by
                rw [Out_eq] at ho
                simp at ho
                omega
              refine Ok.ret ?_
              rw [w64_in (x := S + w.Part) (by omega) (by omega), w64_in (x := n + 1) (by omega) (by omega)]
              refine ⟨⟨by simp only; omega, by simp only; omega, ?_, ?_⟩, by simp only; omega⟩
              · simp only
                rw [show (n + 1).toNat = n.toNat + 1 by omega, pSum_snoc hn', hg', g2]
              · simp only
                intro y hy
                rw [show (n + 1).toNat = n.toNat + 1 by omega, List.take_succ_eq_append_getElem hn', hg'] at hy
                rcases List.mem_append.1 hy with e | e
                · exact g3 y e
                · rw [List.mem_singleton] at e; subst e; exact hp
          · rw [if_neg hn]
            have hta : c.Waves.take n.toNat = c.Waves := List.take_of_length_le (by omega)
            rw [hta] at g2 g3
            refine Ok.inr ?_
            unfold campaign_CheckCampaign_k4
            split
            · exact Ok.ret (fun h => absurd h (by omega))
            · rename_i h1000
              unfold campaign_CheckCampaign_j3
              split
              · exact Ok.ret (fun h => absurd h (by omega))
              · exact Ok.ret (fun _ => ⟨hk, by omega, g3, by omega⟩)
/-! waves -/
def hstep (h : Int) (c : UInt8) : Int := IntKind.u64.wrap (xorI .u64 h (IntKind.u64.wrap (c.toNat : Int)) * 1099511628211)
def hashL (h : Int) (s : Str) : Int := s.foldl hstep h
def h0 : Int := 14695981039346656037
theorem wrap_rng (n : Int) : 0 ≤ IntKind.u64.wrap n ∧ IntKind.u64.wrap n < 18446744073709551616 := by
  rw [IntKind.wrap_u64]; omega
theorem hashL_rng : ∀ (s : Str) (h : Int), 0 ≤ h ∧ h < 18446744073709551616 → 0 ≤ hashL h s ∧ hashL h s < 18446744073709551616
  | [], h, hh => hh
  | c :: s, h, hh => hashL_rng s (hstep h c) (wrap_rng _)
theorem xor_zero {h : Int} (hh : 0 ≤ h ∧ h < 18446744073709551616) : xorI .u64 h 0 = h := by
  unfold xorI
  have e : BitVec.ofInt IntKind.u64.bits 0 = 0#(IntKind.u64.bits) := by decide
  rw [e, BitVec.xor_zero, IntKind.wrap_u64, BitVec.toNat_ofInt]
  show ((h % ((2 ^ 64 : Nat) : Int)).toNat : Int) % 18446744073709551616 = h
  omega
theorem hstep_zero {h : Int} (hh : 0 ≤ h ∧ h < 18446744073709551616) : hstep h 0 = IntKind.u64.wrap (h * 1099511628211) := by
  unfold hstep
  rw [show IntKind.u64.wrap (((0 : UInt8).toNat : Nat) : Int) = 0 by decide, xor_zero hh]
theorem Hash_l2 (n4 : Int) (s : Str) (hs : s.length ≤ 1000) : ∀ (m i : Nat) (h : Int), i + m = s.length → base_Hash_l2 n4 s h i = some (.inl (hashL h (s.drop i), w64 (n4 + 1))) := by
  intro m
  induction m with
  | zero =>
    intro i h hi
    unfold base_Hash_l2
    rw [iter_eq, base_Hash_b2, if_neg (by simp only; omega), map_inr_after, List.drop_of_length_le (by omega)]
    rfl
  | succ m ih =>
    intro i h hi
    obtain ⟨c, hc, _, hd⟩ := idx_lt s (i := (i : Int)) (by omega) (by omega)
    rw [show ((i : Int)).toNat = i by omega, show ((i : Int) + 1).toNat = i + 1 by omega] at hd
    have w1 : w64 ((i : Int) + 1) = ((i + 1 : Nat) : Int) := by rw [w64_in] <;> omega
    have ih' := ih (i + 1) (hstep h c) (by omega)
    unfold base_Hash_l2 at ih' ⊢
    rw [iter_eq, base_Hash_b2, if_pos (by simp only; omega)]
    simp only [hc, Option.bind_some, w1, after_inl, hd]
    exact ih'
theorem Hash_two (a b : Str) (ha : a.length ≤ 1000) (hb : b.length ≤ 1000) : base_Hash [a, b] = some (hashL (IntKind.u64.wrap (hashL h0 a * 1099511628211)) b) := by
  unfold base_Hash base_Hash_l1
  have e0 := Hash_l2 0 a ha a.length 0 14695981039346656037 (by omega)
  have e1 := Hash_l2 1 b hb b.length 0 (IntKind.u64.wrap (hashL h0 a * 1099511628211)) (by omega)
  rw [iter_eq, base_Hash_b1, if_pos (by simp), show idx [a, b] 0 = some a from rfl]
  simp only [Option.bind_some]
  rw [if_neg (by omega)]
  unfold base_Hash_j1
  rw [show ((0 : Nat) : Int) = 0 from rfl, List.drop_zero] at e0
  rw [e0]
  simp only [Option.bind_some, after_inl]
  rw [show w64 (0 + 1) = 1 by decide, iter_eq, base_Hash_b1, if_pos (by simp), show idx [a, b] 1 = some b from rfl]
  simp only [Option.bind_some]
  rw [if_pos (by omega)]
  unfold base_Hash_j1
  rw [show ((0 : Nat) : Int) = 0 from rfl, List.drop_zero] at e1
  rw [show hashL 14695981039346656037 a = hashL h0 a from rfl, e1]
  simp only [Option.bind_some, after_inl]
  rw [show w64 (1 + 1) = 2 by decide, iter_eq, base_Hash_b1, if_neg (by simp), map_inr_after]
def lotV (c : Campaign) (d : Str) : Int := w64 ((xorI .u64 (hashL (IntKind.u64.wrap (hashL h0 c.Key * 1099511628211)) d) (shrI .u64 (hashL (IntKind.u64.wrap (hashL h0 c.Key * 1099511628211)) d) 32)).tmod 1000)
theorem lot_eq (c : Campaign) (d : Str) (h1 : c.Key.length ≤ 1000) (h2 : d.length ≤ 1000) : campaign_lot c d = some (lotV c d) := by
  unfold campaign_lot
  rw [Hash_two _ _ h1 h2]; rfl
theorem Qlot_l1 (s : Str) (hs : s.length ≤ 3000) : ∀ (m i : Nat) (h : Int), i + m = s.length → Q_lot_l1 s h i = some (w64 ((xorI .u64 (hashL h (s.drop i)) (shrI .u64 (hashL h (s.drop i)) 32)).tmod 1000)) := by
  have hbl : (bytesI s).length = s.length := by unfold bytesI; simp
  intro m
  induction m with
  | zero =>
    intro i h hi
    unfold Q_lot_l1
    rw [iter_eq, Q_lot_b1, if_neg (by simp only; omega), map_inr_after, List.drop_of_length_le (by omega)]
    rfl
  | succ m ih =>
    intro i h hi
    obtain ⟨c, hc, _, hd⟩ := idx_lt s (i := (i : Int)) (by omega) (by omega)
    have hcb : idx (bytesI s) (i : Int) = some (c.toNat : Int) := by
      unfold idx at hc ⊢
      rw [if_pos (by omega)] at hc ⊢
      unfold bytesI
      rw [List.getElem?_map, hc]; rfl
    rw [show ((i : Int)).toNat = i by omega, show ((i : Int) + 1).toNat = i + 1 by omega] at hd
    have w1 : w64 ((i : Int) + 1) = ((i + 1 : Nat) : Int) := by rw [w64_in] <;> omega
    have ih' := ih (i + 1) (hstep h c) (by omega)
    unfold Q_lot_l1 at ih' ⊢
    rw [iter_eq, Q_lot_b1, if_pos (by simp only; omega)]
    simp only [hcb, Option.bind_some, w1, after_inl, hd]
    exact ih'
theorem Qlot_eq (c : Campaign) (d : Str) (h1 : c.Key.length ≤ 1000) (h2 : d.length ≤ 1000) : Q_lot c d = some (lotV c d) := by
  unfold Q_lot
  rw [cat_le (by simp; omega)]
  simp only [Option.bind_some]
  rw [cat_le (by simp; omega)]
  simp only [Option.bind_some]
  have e := Qlot_l1 (c.Key ++ [0] ++ d) (by simp; omega) (c.Key ++ [0] ++ d).length 0 h0 (by omega)
  have hh : hashL h0 (c.Key ++ [0] ++ d) = hashL (IntKind.u64.wrap (hashL h0 c.Key * 1099511628211)) d := by
    unfold hashL
    rw [List.foldl_append, List.foldl_append, List.foldl_cons, List.foldl_nil]
    have := hashL_rng c.Key h0 (by unfold h0; omega)
    unfold hashL at this
    rw [hstep_zero this]
  rw [show ((0 : Nat) : Int) = 0 from rfl, List.drop_zero, hh] at e
  exact e
theorem lot_rng (c : Campaign) (d : Str) : 0 ≤ lotV c d ∧ lotV c d < 1000 := by
  unfold lotV
  have hx := wrap_rng ((BitVec.ofInt IntKind.u64.bits (hashL (IntKind.u64.wrap (hashL h0 c.Key * 1099511628211)) d) ^^^ BitVec.ofInt IntKind.u64.bits (shrI .u64 (hashL (IntKind.u64.wrap (hashL h0 c.Key * 1099511628211)) d) 32)).toNat : Int)
  change 0 ≤ xorI .u64 _ _ ∧ xorI .u64 _ _ < _ at hx
  have a1 := Int.tmod_nonneg 1000 hx.1
  have a2 := Int.tmod_lt_of_pos (xorI .u64 (hashL (IntKind.u64.wrap (hashL h0 c.Key * 1099511628211)) d) (shrI .u64 (hashL (IntKind.u64.wrap (hashL h0 c.Key * 1099511628211)) d) 32)) (show (0 : Int) < 1000 by omega)
  rw [w64_in (by omega) (by omega)]
  exact ⟨a1, a2⟩
theorem wave_go (c : Campaign) (hc : CRight c) (v : Int) (hv : v < 1000) : ∀ (m k : Nat) (S : Int), k + m = c.Waves.length → 0 ≤ S → S ≤ v → S + pSum (c.Waves.drop k) = 1000 → ∃ j, campaign_waveOf_l1 c v S k = some j ∧ Q_WaveOf_l1 c (v - S) k = some j := by
  have hlen := hc.len
  intro m
  induction m with
  | zero =>
    intro k S hk h1 h2 h3
    rw [List.drop_of_length_le (by omega)] at h3
    simp [pSum] at h3
    omega
  | succ m ih =>
    intro k S hk h1 h2 h3
    obtain ⟨w, hw, hm, hd⟩ := idx_lt c.Waves (i := (k : Int)) (by omega) (by omega)
    rw [show ((k : Int)).toNat = k by omega, show ((k : Int) + 1).toNat = k + 1 by omega] at hd
    have hp := hc.part w hm
    have w1 : w64 ((k : Int) + 1) = ((k + 1 : Nat) : Int) := by rw [w64_in] <;> omega
    have h4 : S + w.Part + pSum (c.Waves.drop (k + 1)) = 1000 := by
      rw [hd] at h3
      unfold pSum at h3 ⊢
      rw [List.map_cons, List.sum_cons] at h3
      omega
    unfold campaign_waveOf_l1 Q_WaveOf_l1
    rw [iter_eq, iter_eq, campaign_waveOf_b1, Q_WaveOf_b1, if_pos (by simp only; omega), if_pos (by simp only; omega), hw]
    simp only [Option.bind_some]
    rw [w64_in (x := S + w.Part) (by omega) (by omega), w64_in (x := v - S - w.Part) (by omega) (by omega), w1]
    by_cases hq : v < S + w.Part
    · rw [if_pos hq, if_pos (by omega)]
      exact ⟨k, rfl, rfl⟩
    · rw [if_neg hq, if_neg (by omega)]
      simp only [Option.bind_some, after_inl]
      have := ih (k + 1) (S + w.Part) (by omega) (by omega) (by omega) h4
      rw [show v - S - w.Part = v - (S + w.Part) by omega]
      exact this
theorem keyB_lenC {s : Str} (h : keyB s = true) : s.length ≤ 40 := by
  cases s with
  | nil => simp
  | cons c r => rw [keyB_cons] at h; simp at h; simp; omega
/-- What Wave tells. -/
theorem Wave_eq (c : Campaign) (d : Str) : ∃ r w, campaign_CheckCampaign c = some r ∧ campaign_Wave c d = some (if r ≠ 0 then (0, r) else if keyB d = false then (0, 5) else (w, 0)) ∧ (r = 0 → keyB d = true → Q_WaveOf c d = some w) := by
  obtain ⟨r, r1, r2⟩ := Campaign_ends c
  unfold campaign_Wave
  rw [r1, Key_eq]
  simp only [Option.bind_some]
  by_cases h : r ≠ 0
  · exact ⟨r, 0, rfl, by rw [if_pos h, if_pos h], fun h' => absurd h' h⟩
  · have hr := r2 (Classical.not_not.1 h)
    cases hd : keyB d
    · exact ⟨r, 0, rfl, by rw [if_neg h, if_neg h]; rfl, fun _ h' => by cases h'⟩
    · have hk := keyB_lenC hr.key
      have hdl := keyB_lenC hd
      have hlr := lot_rng c d
      obtain ⟨j, j1, j2⟩ := wave_go c hr (lotV c d) hlr.2 c.Waves.length 0 0 (by omega) (by omega) hlr.1 (by rw [List.drop_zero, hr.sum]; rfl)
      refine ⟨r, j, rfl, ?_, fun _ _ => ?_⟩
      · rw [if_neg h, if_neg h]
        unfold campaign_waveOf
        rw [lot_eq c d (by omega) (by omega)]
        simp only [Option.bind_some]
        have j1' : campaign_waveOf_l1 c (lotV c d) 0 0 = some j := j1
        rw [if_neg (by simp), if_neg (by simp), j1']; rfl
      · unfold Q_WaveOf
        rw [Qlot_eq c d (by omega) (by omega)]
        simp only [Option.bind_some]
        rw [show lotV c d - 0 = lotV c d by omega] at j2
        exact j2
end Go.Beacon

/- CampaignsCheck: the generators and the law. No program in sight. -/
set_option linter.unusedVariables false
set_option linter.unusedSimpArgs false
namespace Go.Beacon
open Go Go.Eng

def B40 (n : Int) : Prop := -1099511627777 ≤ n ∧ n ≤ 1099511627777
theorem RightCampaign_k {s : Stm} {K : Int} (hs : SOk s K) (hK : 40 ≤ K) : Gen (Stream_RightCampaign s) (K - 40) (fun c => B40 c.At ∧ c.Waves.length ≤ 10) := by
  refine Gen.of ?_
  unfold Stream_RightCampaign
  refine Ok.gen (Some_k hs (by omega) (by simp) (by simp)) (fun q s1 hq q1 => ?_)
  refine Ok.gen (Pick_k q1 (by omega) (by simp) (by simp)) (fun a s2 ha q2 => ?_)
  refine Ok.gen (Pick_k q2 (by omega) (by simp) (by simp)) (fun b s3 hb q3 => ?_)
  refine Ok.gen (Pick_k q3 (by omega) (by simp) (by simp)) (fun d s4 hd q4 => ?_)
  refine Ok.gen (Next_k q4 (by omega) (by omega) (by omega)) (fun e s5 he q5 => ?_)
  refine Ok.idx he.1 (by simpa using he.2) (fun ps hps hpm => ?_)
  have hpl : ps.length ≤ 3 := by
    simp only [List.mem_cons, List.not_mem_nil, or_false] at hpm
    rcases hpm with h | h | h | h <;> subst h <;> simp
  have hbB : B40 b := by simp at hb; unfold B40; omega
  dsimp only
  unfold Stream_RightCampaign_l1
  refine Ok.iter (fun x : List Int × Int × List Wave × Int => (ps.length - x.2.2.2).toNat) (fun x : List Int × Int × List Wave × Int => 0 ≤ x.2.2.2 ∧ x.2.2.2 ≤ ps.length ∧ SOk ⟨x.1, x.2.1⟩ (K - 37 + 3 * (ps.length - x.2.2.2)) ∧ (x.2.2.1.length : Int) = x.2.2.2) ?_ _ ⟨by simp, by simp, q5.less (by simp only; omega), by simp⟩
  rintro ⟨L, a2, l, n⟩ ⟨g0, g1, g2, g3⟩
  simp only at g0 g1 g2 g3 ⊢
  unfold Stream_RightCampaign_b1
  by_cases hn : n < ps.length
  · rw [if_pos hn]
    refine Ok.idx g0 hn (fun p hp _ => ?_)
    refine Ok.gen (Pick_k g2 (by omega) (by simp) (by simp)) (fun u s6 _ q6 => ?_)
    refine Ok.gen (Pick_k q6 (by omega) (by simp) (by simp)) (fun v s7 _ q7 => ?_)
    refine Ok.gen (Pick_k q7 (by omega) (by simp) (by simp)) (fun w s8 _ q8 => ?_)
    refine Ok.app (by simp; omega) ?_
    refine Ok.ret ?_
    rw [w64_in (by omega) (by omega)]
    exact ⟨⟨by simp only; omega, by simp only; omega, q8.less (by simp only; omega), by simp; omega⟩, by simp only; omega⟩
  · rw [if_neg hn]
    refine Ok.inr ?_
    unfold Stream_RightCampaign_k2 Stream_RightCampaign_j1
    refine Ok.gen (Flip_k g2 (by omega) (by omega) (by omega)) (fun c s6 _ q6 => ?_)
    dsimp only
    split
    · refine Ok.gen (Pick_k q6 (by omega) (by simp) (by simp)) (fun u s7 _ q7 => ?_)
      refine Ok.gen (Pick_k q7 (by omega) (by simp) (by simp)) (fun v s8 _ q8 => ?_)
      exact Ok.ret ⟨⟨hbB, by simp only; omega⟩, q8.less (by omega)⟩
    · exact Ok.ret ⟨⟨hbB, by simp only; omega⟩, q6.less (by omega)⟩
theorem Version_k {s : Stm} {K : Int} (hs : SOk s K) (hK : 10 ≤ K) : Gen (Stream_Version s) (K - 10) (fun _ => True) := by
  refine Gen.of ?_
  unfold Stream_Version Stream_Version_j1
  have hr : Gen (Stream_RightVersion s) (K - 3) (fun _ => True) := by
    refine Gen.of ?_
    unfold Stream_RightVersion
    refine Ok.gen (Range_k hs (by omega) (by omega) (by omega) (by omega)) (fun a s1 _ q1 => ?_)
    refine Ok.gen (Pick_k q1 (by omega) (by simp) (by simp)) (fun b s2 _ q2 => ?_)
    refine Ok.gen (Pick_k q2 (by omega) (by simp) (by simp)) (fun d s3 _ q3 => ?_)
    exact Ok.ret ⟨trivial, q3.less (by omega)⟩
  refine Ok.gen hr (fun v s1 _ q1 => ?_)
  refine Ok.gen (Flip_k q1 (by omega) (by omega) (by omega)) (fun c s2 _ q2 => ?_)
  dsimp only
  split
  · refine Ok.gen (Odd_k q2 (by omega) (by omega) (by omega) (by omega)) (fun b s3 _ q3 => ?_)
    refine Ok.gen (Odd_k q3 (by omega) (by omega) (by omega) (by omega)) (fun d s4 _ q4 => ?_)
    exact Ok.ret ⟨trivial, q4.less (by omega)⟩
  · exact Ok.ret ⟨trivial, q2.less (by omega)⟩
theorem Campaign_k {s : Stm} {K : Int} (hs : SOk s K) (hK : 70 ≤ K) : Gen (Stream_Campaign s) (K - 70) (fun c => B40 c.At) := by
  refine Gen.of ?_
  unfold Stream_Campaign Stream_Campaign_j6 Stream_Campaign_j5 Stream_Campaign_j4 Stream_Campaign_j3 Stream_Campaign_j2 Stream_Campaign_j1
  refine Ok.gen (RightCampaign_k hs (by omega)) (fun c s1 hc q1 => ?_)
  have hc1 := hc.1
  refine Ok.gen (Flip_k q1 (by omega) (by omega) (by omega)) (fun b s2 _ q2 => ?_)
  dsimp only
  split
  · refine Ok.gen (Next_k q2 (by omega) (by omega) (by omega)) (fun n s3 _ q3 => ?_)
    dsimp only
    split
    · refine Ok.gen (Some_k q3 (by omega) (by simp) (by simp)) (fun q s4 _ q4 => ?_)
      exact Ok.ret ⟨hc1, q4.less (by omega)⟩
    · split
      · refine Ok.gen (Version_k q3 (by omega)) (fun q s4 _ q4 => ?_)
        exact Ok.ret ⟨hc1, q4.less (by omega)⟩
      · split
        · refine Ok.gen (Odd_k q3 (by omega) (by omega) (by omega) (by omega)) (fun q s4 hq q4 => ?_)
          exact Ok.ret ⟨hq, q4.less (by omega)⟩
        · split
          · refine Ok.gen (Odd_k q3 (by omega) (by omega) (by omega) (by omega)) (fun u s4 _ q4 => ?_)
            refine Ok.gen (Odd_k q4 (by omega) (by omega) (by omega) (by omega)) (fun v s5 _ q5 => ?_)
            refine Ok.gen (Odd_k q5 (by omega) (by omega) (by omega) (by omega)) (fun w s6 _ q6 => ?_)
            refine Ok.gen (Odd_k q6 (by omega) (by omega) (by omega) (by omega)) (fun x s7 _ q7 => ?_)
            dsimp only
            refine Ok.app (by have := hc.2; simp; omega) ?_
            exact Ok.ret ⟨hc1, q7.less (by omega)⟩
          · split
            · refine Ok.gen (Odd_k q3 (by omega) (by omega) (by omega) (by omega)) (fun u s4 _ q4 => ?_)
              refine Ok.gen (Odd_k q4 (by omega) (by omega) (by omega) (by omega)) (fun v s5 _ q5 => ?_)
              exact Ok.ret ⟨hc1, q5.less (by omega)⟩
            · refine Ok.gen (Odd_k q3 (by omega) (by omega) (by omega) (by omega)) (fun u s4 _ q4 => ?_)
              exact Ok.ret ⟨hc1, q4.less (by omega)⟩
  · exact Ok.ret ⟨hc1, q2.less (by omega)⟩
theorem Fleet_k {s : Stm} {K : Int} (hs : SOk s K) (hK : 60 ≤ K) : Gen (Stream_Fleet s 5) (K - 60) (fun l => l.length ≤ 6) := by
  refine Gen.of ?_
  have hr : Gen (Stream_RightFleet s 5) (K - 30) (fun l => l.length ≤ 6) := by
    refine Gen.of ?_
    unfold Stream_RightFleet
    rw [show slc [([100, 49] : Str), ([100, 50] : Str), ([100, 51] : Str), ([100, 52] : Str), ([100, 53] : Str), ([100, 54] : Str)] (0 : Int) 5 = some [([100, 49] : Str), ([100, 50] : Str), ([100, 51] : Str), ([100, 52] : Str), ([100, 53] : Str)] from rfl]
    simp only [Option.bind_some]
    unfold Stream_RightFleet_l1
    refine Ok.iter (fun x : List Int × Int × List DeviceS × Int => (5 - x.2.2.2).toNat) (fun x : List Int × Int × List DeviceS × Int => 0 ≤ x.2.2.2 ∧ x.2.2.2 ≤ 5 ∧ SOk ⟨x.1, x.2.1⟩ (K - 30 + 4 * (5 - x.2.2.2)) ∧ (x.2.2.1.length : Int) ≤ x.2.2.2) ?_ _ ⟨by simp, by simp, hs.less (by simp only; omega), by simp⟩
    rintro ⟨L, a, l, n⟩ ⟨g0, g1, g2, g3⟩
    simp only at g0 g1 g2 g3 ⊢
    unfold Stream_RightFleet_b1
    by_cases hn : n < 5
    · rw [if_pos (by simpa using hn)]
      refine Ok.idx g0 (by simpa using hn) (fun p hp _ => ?_)
      refine Ok.gen (Flip_k g2 (by omega) (by omega) (by omega)) (fun b s2 _ q2 => ?_)
      dsimp only
      unfold Stream_RightFleet_j1
      rw [w64_in (by omega) (by omega)]
      split
      · refine Ok.gen (Some_k q2 (by omega) (by simp) (by simp)) (fun u s6 _ q6 => ?_)
        refine Ok.gen (Pick_k q6 (by omega) (by simp) (by simp)) (fun v s7 _ q7 => ?_)
        refine Ok.gen (Pick_k q7 (by omega) (by simp) (by simp)) (fun w s8 _ q8 => ?_)
        refine Ok.app (by simp; omega) ?_
        exact Ok.ret ⟨⟨by simp only; omega, by simp only; omega, q8.less (by simp only; omega), by simp; omega⟩, by simp only; omega⟩
      · exact Ok.ret ⟨⟨by simp only; omega, by simp only; omega, q2.less (by simp only; omega), by simp only; omega⟩, by simp only; omega⟩
    · rw [if_neg (by simpa using hn)]
      exact Ok.inr (Ok.ret ⟨by simp only; omega, g2.less (by omega)⟩)
  unfold Stream_Fleet
  refine Ok.gen hr (fun l s1 hl q1 => ?_)
  dsimp only
  unfold Stream_Fleet_j1 Stream_Fleet_j2
  split
  · rename_i hpos
    refine Ok.gen (Flip_k q1 (by omega) (by omega) (by omega)) (fun b s2 _ q2 => ?_)
    dsimp only
    split
    · refine Ok.gen (Next_k q2 (by omega) (by omega) (by omega)) (fun n s3 hn q3 => ?_)
      dsimp only
      refine Ok.idx hn.1 hn.2 (fun p hp _ => ?_)
      refine Ok.gen (Some_k q3 (by omega) (by simp) (by simp)) (fun u s4 _ q4 => ?_)
      refine Ok.gen (Some_k q4 (by omega) (by simp) (by simp)) (fun v s5 _ q5 => ?_)
      refine Ok.gen (Version_k q5 (by omega)) (fun w s6 _ q6 => ?_)
      exact Ok.ret ⟨by simpa using hl, q6.less (by omega)⟩
    · exact Ok.ret ⟨hl, q2.less (by omega)⟩
  · rw [if_neg (by simp)]
    exact Ok.ret ⟨hl, q1.less (by omega)⟩
/-- Marks that are drawn. -/
def MG (k : Int) (l : List MarkS) : Prop := (l.length : Int) ≤ k ∧ ∀ x ∈ l, MB x
theorem MG.perm {k : Int} {l Z : List MarkS} (h : MG k l) (hp : Z.Perm l) : MG k Z := ⟨by rw [hp.length_eq]; exact h.1, fun c hc => h.2 c (hp.mem_iff.1 hc)⟩
theorem MG.sub {k : Int} {l Z : List MarkS} (h : MG k l) (hp : Z.Sublist l) : MG k Z := ⟨by have := hp.length_le; have := h.1; omega, fun c hc => h.2 c (hp.subset hc)⟩
theorem MG.snoc {k : Int} {l : List MarkS} (h : MG k l) {c : MarkS} (hc : MB c) : MG (k + 1) (l ++ [c]) :=
  ⟨by have := h.1; simp; omega, fun x hx => by
    rcases List.mem_append.1 hx with e | e
    · exact h.2 x e
    · rw [List.mem_singleton] at e; subst e; exact hc⟩
theorem Marks_k {s : Stm} {c : Campaign} {fl : List DeviceS} {many K : Int} (hs : SOk s K) (hm : 0 ≤ many ∧ many ≤ 8) (hK : 200 ≤ K) (hc : B40 c.At) (hf : fl.length ≤ 1000) : Gen (Stream_Marks s c fl many) (K - 200) (MG many) := by
  refine Gen.of ?_
  unfold Stream_Marks Stream_Marks_l1
  refine Ok.iter (fun x : List Int × Int × List MarkS × Int × Int => (many - x.2.2.2.2).toNat) (fun x : List Int × Int × List MarkS × Int × Int => 0 ≤ x.2.2.2.2 ∧ x.2.2.2.2 ≤ many ∧ SOk ⟨x.1, x.2.1⟩ (K - 190 + 15 * (many - x.2.2.2.2)) ∧ MG x.2.2.2.2 x.2.2.1 ∧ (-1099511627777 ≤ x.2.2.2.1 ∧ x.2.2.2.1 ≤ 1099511627777 + 10 * x.2.2.2.2)) ?_ _ ⟨by simp, by simp only; omega, hs.less (by simp only; omega), ⟨by simp, by simp⟩, by unfold B40 at hc; simp only; omega⟩
  rintro ⟨L, a, l, t, n⟩ ⟨g0, g1, g2, g3, g4⟩
  simp only at g0 g1 g2 g3 g4 ⊢
  have hll := g3.1
  unfold Stream_Marks_b1
  by_cases hn : n < many
  · rw [if_pos hn]
    refine Ok.gen (Pick_k g2 (by omega) (by simp) (by simp)) (fun p1 s1 h1 q1 => ?_)
    refine Ok.gen (Some_k q1 (by omega) (by simp) (by simp)) (fun p2 s2 h2 q2 => ?_)
    refine Ok.gen (Range_k q2 (by omega) (by omega) (by omega) (by omega)) (fun p3 s3 h3 q3 => ?_)
    refine Ok.gen (Pick_k q3 (by omega) (by simp) (by simp)) (fun p4 s4 h4 q4 => ?_)
    have hp1 : 0 ≤ p1 ∧ p1 ≤ 10 := by simp at h1; omega
    dsimp only
    have j8 : ∀ (x33 x34 x35 : Int) (L' : List Int) (a' : Int) (at' : Int) (q : Str) (kd : Int), (-1099511627777 ≤ at' ∧ at' ≤ 2099511627777) → SOk ⟨L', a'⟩ (K - 190 + 15 * (many - n - 1)) →
        Ok (Stream_Marks_j8 l t n (p1, s1) x33 x34 x35 L' a' at' q kd) (Stp (fun x : List Int × Int × List MarkS × Int × Int => (many - x.2.2.2.2).toNat) (fun x : List Int × Int × List MarkS × Int × Int => 0 ≤ x.2.2.2.2 ∧ x.2.2.2.2 ≤ many ∧ SOk ⟨x.1, x.2.1⟩ (K - 190 + 15 * (many - x.2.2.2.2)) ∧ MG x.2.2.2.2 x.2.2.1 ∧ (-1099511627777 ≤ x.2.2.2.1 ∧ x.2.2.2.1 ≤ 1099511627777 + 10 * x.2.2.2.2)) (fun r => MG many r.1 ∧ SOk r.2 (K - 200)) (L, a, l, t, n)) := by
      intro x33 x34 x35 L' a' at' q kd hat hs'
      unfold Stream_Marks_j8
      refine Ok.app (by simp; omega) ?_
      refine Ok.ret ?_
      rw [w64_in (x := t + p1) (by omega) (by omega), w64_in (x := n + 1) (by omega) (by omega)]
      exact ⟨⟨by simp only; omega, by simp only; omega, hs'.less (by simp only; omega), g3.snoc (by unfold MB; simp only; omega), by simp only; omega⟩, by simp only; omega⟩
    have j3 : ∀ (q : Str) (L' : List Int) (a' kd x33 x34 x35 : Int), SOk ⟨L', a'⟩ (K - 190 + 15 * (many - n - 1) + 6) →
        Ok (Stream_Marks_j3 l t n (p1, s1) q L' a' kd x33 x34 x35) (Stp (fun x : List Int × Int × List MarkS × Int × Int => (many - x.2.2.2.2).toNat) (fun x : List Int × Int × List MarkS × Int × Int => 0 ≤ x.2.2.2.2 ∧ x.2.2.2.2 ≤ many ∧ SOk ⟨x.1, x.2.1⟩ (K - 190 + 15 * (many - x.2.2.2.2)) ∧ MG x.2.2.2.2 x.2.2.1 ∧ (-1099511627777 ≤ x.2.2.2.1 ∧ x.2.2.2.1 ≤ 1099511627777 + 10 * x.2.2.2.2)) (fun r => MG many r.1 ∧ SOk r.2 (K - 200)) (L, a, l, t, n)) := by
      intro q L' a' kd x33 x34 x35 hs'
      unfold Stream_Marks_j3
      refine Ok.gen (Flip_k hs' (by omega) (by omega) (by omega)) (fun b s5 _ q5 => ?_)
      dsimp only
      split
      · refine Ok.gen (Odd_k q5 (by omega) (by omega) (by omega) (by omega)) (fun u s6 hu q6 => ?_)
        refine Ok.gen (Some_k q6 (by omega) (by simp) (by simp)) (fun v s7 _ q7 => ?_)
        refine Ok.gen (Odd_k q7 (by omega) (by omega) (by omega) (by omega)) (fun w s8 _ q8 => ?_)
        exact j8 _ _ _ _ _ _ _ _ (by omega) (q8.less (by omega))
      · rw [w64_in (x := t + p1) (by omega) (by omega)]
        exact j8 _ _ _ _ _ _ _ _ (by omega) (q5.less (by omega))
    have j2 : ∀ (q : Str) (L' : List Int) (a' : Int), SOk ⟨L', a'⟩ (K - 190 + 15 * (many - n - 1) + 8) →
        Ok (Stream_Marks_j2 l t n (p1, s1) (p3, s3) (p4, s4) L' a' q) (Stp (fun x : List Int × Int × List MarkS × Int × Int => (many - x.2.2.2.2).toNat) (fun x : List Int × Int × List MarkS × Int × Int => 0 ≤ x.2.2.2.2 ∧ x.2.2.2.2 ≤ many ∧ SOk ⟨x.1, x.2.1⟩ (K - 190 + 15 * (many - x.2.2.2.2)) ∧ MG x.2.2.2.2 x.2.2.1 ∧ (-1099511627777 ≤ x.2.2.2.1 ∧ x.2.2.2.1 ≤ 1099511627777 + 10 * x.2.2.2.2)) (fun r => MG many r.1 ∧ SOk r.2 (K - 200)) (L, a, l, t, n)) := by
      intro q L' a' hs'
      unfold Stream_Marks_j2
      refine Ok.gen (Flip_k hs' (by omega) (by omega) (by omega)) (fun b s5 _ q5 => ?_)
      dsimp only
      split
      · unfold Stream_Marks_l2
        refine Ok.iter (fun x : Int × Str × Int × Int × Int × Int × Int => (l.length - x.2.2.2.2.2.2).toNat) (fun x : Int × Str × Int × Int × Int × Int × Int => 0 ≤ x.2.2.2.2.2.2 ∧ x.2.2.2.2.2.2 ≤ l.length) ?_ _ ⟨by simp, by simp⟩
        rintro ⟨y1, y2, y3, y4, y5, y6, y7⟩ ⟨k0, k1⟩
        simp only at k0 k1 ⊢
        unfold Stream_Marks_b2
        by_cases hy : y7 < l.length
        · rw [if_pos hy]
          refine Ok.idx k0 hy (fun p hp _ => ?_)
          unfold Stream_Marks_j4
          rw [w64_in (by omega) (by omega)]
          split <;> exact Ok.ret ⟨⟨by simp only; omega, by simp only; omega⟩, by simp only; omega⟩
        · rw [if_neg hy]
          refine Ok.inr ?_
          unfold Stream_Marks_k7 Stream_Marks_j6 Stream_Marks_j5
          split
          · refine Ok.gen (Pick_k q5 (by omega) (by simp) (by simp)) (fun u s6 hu q6 => ?_)
            exact j3 _ _ _ _ _ _ _ (q6.less (by omega))
          · split
            · refine Ok.gen (Pick_k q5 (by omega) (by simp) (by simp)) (fun u s6 hu q6 => ?_)
              exact j3 _ _ _ _ _ _ _ (q6.less (by omega))
            · exact j3 _ _ _ _ _ _ _ (q5.less (by omega))
      · exact j3 _ _ _ _ _ _ _ (q5.less (by omega))
    unfold Stream_Marks_j1
    split
    · rename_i hpos
      refine Ok.gen (Flip_k q4 (by omega) (by omega) (by omega)) (fun b s5 _ q5 => ?_)
      dsimp only
      split
      · refine Ok.gen (Next_k q5 (by omega) (by omega) (by omega)) (fun u s6 hu q6 => ?_)
        dsimp only
        refine Ok.idx hu.1 hu.2 (fun p hp _ => ?_)
        exact j2 _ _ _ (q6.less (by omega))
      · exact j2 _ _ _ (q5.less (by omega))
    · rw [if_neg (by simp)]
      exact j2 _ _ _ (q4.less (by omega))
  · rw [if_neg hn]
    refine Ok.inr ?_
    unfold Stream_Marks_k9
    have hl' : MG many l := ⟨by omega, g3.2⟩
    obtain ⟨Z, z1, z2, _⟩ := mstable_len (fun y0 y1 => some (Q_MarkOrder y0 y1)) l (by omega) (fun x hx y hy => by rw [morder_B g3.2 x hx y hy])
    rw [z1]
    simp only [Option.bind_some]
    refine Ok.gen (Flip_k g2 (by omega) (by omega) (by omega)) (fun b s5 _ q5 => ?_)
    dsimp only
    split
    · exact Ok.ret ⟨hl'.perm z2, q5.less (by omega)⟩
    · rw [mcompactF_eq (fun y0 y1 => some (Stream_Marks_1x y0 y1)) Stream_Marks_1x Z (by have := z2.length_eq; omega) (fun x _ y _ => rfl)]
      exact Ok.ret ⟨(hl'.perm z2).sub (dd_sub _ _), q5.less (by omega)⟩
/-! the law -/
theorem errs2C (x y : Int) : L_errs [x, y] = some (orL [x, y]) := gOr_eq _ (by simp)
theorem cc_j2 (c : Campaign) (sc : Stm) (fl : List DeviceS) (sf : Stm) (d : Str) (sd : Stm) (a : List MarkS) (sa : Stm) (b : List MarkS) (ha : MG 8 a) (hb : MG 8 b) : L_CampaignsCheck_j2 (c, sc) (fl, sf) (d, sd) (a, sa) b = some true := by
  obtain ⟨r, w, r1, r2, r3⟩ := Wave_eq c d
  obtain ⟨t, t0, t1, t2⟩ := Merges_eq a b (by have := ha.1; omega) (by have := hb.1; omega) ha.2 hb.2
  unfold L_CampaignsCheck_j2
  dsimp only
  rw [r2, t1, Campaign_chk, r1, CheckFleet_eq, FleetFault_eq, CheckMarks_eq, MarksFault_eq a ha.2]
  simp only [Option.bind_some]
  rw [if_neg (by simp), if_neg (by simp)]
  unfold L_CampaignsCheck_j3
  rw [if_neg (by simp)]
  dsimp only
  rw [QKey_eq]
  simp only [Option.bind_some]
  have fin : ∀ (e n : Int) (L : List MarkS), L.length ≤ 1000 → ∀ (v : Int × Int) (u : List MarkS × Int), v = (n, e) → u = (L, u.2) → L_CampaignsCheck_j5 v u e n u.2 L = some true := by
    rintro e n L hL v u rfl hu
    unfold L_CampaignsCheck_j5
    rw [if_pos rfl, if_pos rfl, if_pos rfl, hu]
    rw [show slices_Equal_Mark_Mark L L = some (decide (L = L)) from gEqual_eq L L (by omega)]
    simp only [decide_true, Option.bind_some, if_true]
    rw [versioned_eq]
    rfl
  have j4 : ∀ (e n : Int) (v : Int × Int), v = (n, e) → L_CampaignsCheck_j4 (a, sa) b v (if orL [chkM a, chkM b] ≠ 0 then ([], orL [chkM a, chkM b]) else t) e n = some true := by
    intro e n v hv
    unfold L_CampaignsCheck_j4
    dsimp only
    rw [MarksFault_eq a ha.2, MarksFault_eq b hb.2]
    simp only [Option.bind_some]
    rw [errs2C]
    simp only [Option.bind_some]
    by_cases h : orL [chkM a, chkM b] = 0
    · rw [if_pos h, if_neg (by simp [h]), t2]
      simp only [Option.bind_some]
      exact fin e n t.1 t0 v t hv rfl
    · rw [if_neg h, if_pos h]
      exact fin e n [] (by simp) v ([], orL [chkM a, chkM b]) hv rfl
  rw [errs2C]
  simp only [Option.bind_some]
  unfold L_when
  by_cases hr : r = 0
  · subst hr
    cases hk : keyB d
    · rw [show (if (!false) = true then (5 : Int) else 0) = 5 from rfl, show orL [(0 : Int), 5] = 5 from by decide, if_neg (by omega)]
      exact j4 _ _ _ (by rw [if_neg (by simp), if_pos rfl])
    · rw [show (if (!true) = true then (5 : Int) else 0) = 0 from rfl, show orL [(0 : Int), 0] = 0 from by decide, if_pos rfl, r3 rfl hk]
      simp only [Option.bind_some]
      exact j4 _ _ _ (by rw [if_neg (by simp), if_neg (by simp)])
  · have ho : ∀ y : Int, orL [r, y] = r := fun y => by rw [orL2, if_pos hr]
    rw [ho, if_neg hr]
    exact j4 _ _ _ (by rw [if_pos hr])
theorem cc_j1 (c : Campaign) (sc : Stm) (fl : List DeviceS) (sf : Stm) (d : Str) (sd : Stm) (a : List MarkS) (sa : Stm) (b : List MarkS) (sb : Stm) (ha : MG 8 a) (hb : MG 8 b) (L : List Int) (n : Int) (x : Bool) (hs : SOk ⟨L, n⟩ 5) (hx : x = true → 0 < (a.length : Int)) : L_CampaignsCheck_j1 (c, sc) (fl, sf) (d, sd) (a, sa) (b, sb) L n x = some true := by
  have hal := ha.1
  have key : Ok (L_CampaignsCheck_j1 (c, sc) (fl, sf) (d, sd) (a, sa) (b, sb) L n x) (fun r => r = true) := by
    unfold L_CampaignsCheck_j1
    dsimp only
    split
    · rename_i h
      have := hx h
      refine Ok.gen (Next_k hs (by omega) (by omega) (by omega)) (fun u s6 hu q6 => ?_)
      dsimp only
      refine Ok.slc hu.1 (by omega) (by omega) (fun ys hys hyl => ?_)
      unfold slices_Clone_Mark_Mark
      rw [app_le (by simp; omega)]
      simp only [Option.bind_some, List.nil_append]
      refine ⟨true, cc_j2 c sc fl sf d sd a sa ys ha ⟨by omega, fun y hy => ?_⟩, rfl⟩
      rw [hys] at hy
      exact ha.2 y (List.mem_of_mem_drop (List.mem_of_mem_take hy))
    · exact ⟨true, cc_j2 c sc fl sf d sd a sa b ha hb, rfl⟩
  obtain ⟨r, h1, rfl⟩ := key
  exact h1
theorem CampaignsCheck_plain (L : List Int) : L_CampaignsCheck L = some true := by
  have key : Ok (L_CampaignsCheck L) (fun r => r = true) := by
    unfold L_CampaignsCheck
    refine Ok.gen (Campaign_k (s := ⟨L, 0⟩) (K := 1000) ⟨by simp, by simp⟩ (by omega)) (fun c s1 hc q1 => ?_)
    refine Ok.gen (Fleet_k q1 (by omega)) (fun fl s2 hf q2 => ?_)
    refine Ok.gen (Some_k q2 (by omega) (by simp) (by simp)) (fun d s3 _ q3 => ?_)
    refine Ok.gen (Range_k q3 (by omega) (by omega) (by omega) (by omega)) (fun m s4 hm q4 => ?_)
    dsimp only
    refine Ok.gen (Marks_k q4 (by omega) (by omega) hc (by omega)) (fun a s5 ha q5 => ?_)
    refine Ok.gen (Range_k q5 (by omega) (by omega) (by omega) (by omega)) (fun m2 s6 hm2 q6 => ?_)
    dsimp only
    refine Ok.gen (Marks_k q6 (by omega) (by omega) hc (by omega)) (fun b s7 hb q7 => ?_)
    have ha8 : MG 8 a := ⟨by have := ha.1; omega, ha.2⟩
    have hb8 : MG 8 b := ⟨by have := hb.1; omega, hb.2⟩
    dsimp only
    by_cases hp : (0 : Int) < a.length
    · rw [if_pos hp]
      refine Ok.gen (Flip_k q7 (by omega) (by omega) (by omega)) (fun x s8 _ q8 => ?_)
      dsimp only
      exact ⟨true, cc_j1 c s1 fl s2 d s3 a s5 b s7 ha8 hb8 s8.L s8.at_ x (q8.less (by omega)) (fun _ => hp), rfl⟩
    · rw [if_neg hp]
      exact ⟨true, cc_j1 c s1 fl s2 d s3 a s5 b s7 ha8 hb8 s7.L s7.at_ false (q7.less (by omega)) (fun h => by cases h), rfl⟩
  obtain ⟨r, h1, rfl⟩ := key
  exact h1
end Go.Beacon

