/- Plain facts on what the functions compute. No program in sight. -/
import Derived.Test.YtpibecbdhjbanaaGreatDoorWbeP
import Derived.Test.YtpibecbdhjbanaaGreatDoorPlBA
import Derived.Lib.AtoiTie
import Derived.Lib.AtoiBound
import Derived.Lib.ItoaLen
import Derived.Laws.Bits64
/- Plain facts of the streams that make inputs: each ends, and what it hands out is within bounds. No program in sight. -/
set_option linter.unusedVariables false
set_option linter.unusedSimpArgs false
namespace Go.Beacon
open Go Go.Eng

abbrev Stm := Fleetmake_Stream
/-- At least k more numbers can be drawn. -/
def SOk (s : Stm) (k : Int) : Prop := 0 ≤ s.at_ ∧ s.at_ + k ≤ 4611686018427387904
theorem SOk.less {s : Stm} {k k' : Int} (h : SOk s k) (hk : k' ≤ k) : SOk s k' := ⟨h.1, by have := h.2; omega⟩
def Gen {α : Type} (m : Option (α × Stm)) (k : Int) (P : α → Prop) : Prop := ∃ v s', m = some (v, s') ∧ P v ∧ SOk s' k
theorem Gen.bind {α β : Type} {m : Option (α × Stm)} {k k' : Int} {P : α → Prop} {Q : β → Prop} {f : α × Stm → Option (β × Stm)} (h : Gen m k P) (hf : ∀ v s', P v → SOk s' k → Gen (f (v, s')) k' Q) : Gen (m.bind f) k' Q := by
  obtain ⟨v, s', rfl, h1, h2⟩ := h
  exact hf v s' h1 h2
theorem Gen.ret {α : Type} {v : α} {s : Stm} {k : Int} {P : α → Prop} (h1 : P v) (h2 : SOk s k) : Gen (some (v, s)) k P := ⟨v, s, rfl, h1, h2⟩
theorem Below_ok (x : Int) {n : Int} (h1 : 1 ≤ n) (h2 : n ≤ 4611686018427387904) : ∃ v, Below x n = some v ∧ 0 ≤ v ∧ v < n := by
  unfold Below Below_j1
  rw [if_neg (by omega), rem_ne (by omega)]
  have a1 := Int.lt_tmod_of_pos x (show 0 < n by omega)
  have a2 := Int.tmod_lt_of_pos x (show 0 < n by omega)
  simp only [Option.bind_some]
  split
  · exact ⟨_, rfl, by rw [w64_in] <;> omega, by rw [w64_in] <;> omega⟩
  · exact ⟨_, rfl, by omega, by omega⟩

theorem Next_ok {s : Stm} {n k : Int} (hs : SOk s (k + 1)) (h1 : 1 ≤ n) (h2 : n ≤ 4611686018427387904) (hk : 0 ≤ k) : Gen (Stream_Next s n) k (fun v => 0 ≤ v ∧ v < n) := by
  obtain ⟨a1, a2⟩ := hs
  have e1 : w64 (s.at_ + 1) = s.at_ + 1 := by rw [w64_in] <;> omega
  have e2 : w64 (s.at_ + 1 - 1) = s.at_ := by rw [w64_in] <;> omega
  unfold Stream_Next
  split
  · obtain ⟨v, hv, h3, h4⟩ := Below_ok (w64 (w64 (s.at_ + 1) * 7919)) h1 h2
    rw [hv]
    exact Gen.ret ⟨h3, h4⟩ ⟨by show 0 ≤ w64 (s.at_ + 1); omega, by show w64 (s.at_ + 1) + k ≤ _; omega⟩
  · rename_i hl
    have hl' : (0 : Int) < s.L.length := by omega
    rw [e1, e2, rem_pos hl' a1, quo_ne (by omega)]
    simp only [Option.bind_some]
    obtain ⟨x, hx, _, _⟩ := idx_lt s.L (i := s.at_ % s.L.length) (Int.emod_nonneg _ (by omega)) (Int.emod_lt_of_pos _ hl')
    rw [hx]
    simp only [Option.bind_some]
    obtain ⟨u, hu, _, _⟩ := Below_ok x (n := 1073741824) (by omega) (by omega)
    rw [hu]
    simp only [Option.bind_some]
    obtain ⟨v, hv, h3, h4⟩ := Below_ok (w64 (u + w64 (w64 (s.at_.tdiv s.L.length) * w64 (7919 + s.at_ % s.L.length)))) h1 h2
    rw [hv]
    exact Gen.ret ⟨h3, h4⟩ ⟨by simp only; omega, by simp only; omega⟩

theorem Pick_ok {s : Stm} {l : List Int} {k : Int} (hs : SOk s (k + 1)) (h1 : l ≠ []) (h2 : l.length ≤ 1000) (hk : 0 ≤ k) : Gen (Stream_Pick s l) k (fun v => v ∈ l) := by
  unfold Stream_Pick
  have hl : 0 < l.length := List.length_pos_iff.2 h1
  refine Gen.bind (Next_ok hs (by omega) (by omega) hk) (fun v s' hv hs' => ?_)
  obtain ⟨x, hx, hm, _⟩ := idx_lt l hv.1 hv.2
  simp only [hx, Option.bind_some]
  exact Gen.ret hm hs'
theorem Range_ok {s : Stm} {a b k : Int} (hs : SOk s (k + 1)) (hab : a ≤ b) (ha : -1152921504606846976 ≤ a) (hb : b ≤ 1152921504606846976) (hk : 0 ≤ k) : Gen (Stream_Range s a b) k (fun v => a ≤ v ∧ v ≤ b) := by
  unfold Stream_Range
  have e1 : w64 (b - a) = b - a := by rw [w64_in] <;> omega
  have e2 : w64 (b - a + 1) = b - a + 1 := by rw [w64_in] <;> omega
  rw [if_neg (by omega), e1, e2]
  refine Gen.bind (Next_ok hs (by omega) (by omega) hk) (fun v s' hv hs' => ?_)
  refine Gen.ret ?_ hs'
  simp only
  rw [w64_in] <;> omega
theorem Flip_ok {s : Stm} {n k : Int} (hs : SOk s (k + 1)) (h1 : 1 ≤ n) (h2 : n ≤ 4611686018427387904) (hk : 0 ≤ k) : Gen (Stream_Flip s n) k (fun _ => True) := by
  unfold Stream_Flip
  exact Gen.bind (Next_ok hs h1 h2 hk) (fun v s' hv hs' => Gen.ret trivial hs')
theorem Some_ok {s : Stm} {l : List Str} {k : Int} (hs : SOk s (k + 1)) (h1 : l ≠ []) (h2 : l.length ≤ 1000) (hk : 0 ≤ k) : Gen (Stream_Some s l) k (fun v => v ∈ l) := by
  unfold Stream_Some
  have hl : 0 < l.length := List.length_pos_iff.2 h1
  refine Gen.bind (Next_ok hs (by omega) (by omega) hk) (fun v s' hv hs' => ?_)
  obtain ⟨x, hx, hm, _⟩ := idx_lt l hv.1 hv.2
  simp only [hx, Option.bind_some]
  exact Gen.ret hm hs'
theorem Odd_ok {s : Stm} {a b k : Int} (hs : SOk s (k + 2)) (hab : a ≤ b) (ha : -1099511627776 ≤ a) (hb : b ≤ 1099511627776) (hk : 0 ≤ k) : Gen (Stream_Odd s a b) k (fun v => -1099511627777 ≤ v ∧ v ≤ 1099511627777) := by
  unfold Stream_Odd
  refine Gen.bind (Flip_ok (k := k + 1) (hs.less (by omega)) (by omega) (by omega) (by omega)) (fun v s' hv hs' => ?_)
  simp only
  split
  · refine Gen.bind (Pick_ok hs' (by simp) (by simp) hk) (fun v s' hv hs' => Gen.ret ?_ hs')
    have e1 : w64 (a - 1) = a - 1 := by rw [w64_in] <;> omega
    have e2 : w64 (b + 1) = b + 1 := by rw [w64_in] <;> omega
    rw [e1, e2] at hv
    simp only [List.mem_cons, List.not_mem_nil, or_false] at hv
    simp only; omega
  · refine Gen.bind (Range_ok hs' hab (by omega) (by omega) hk) (fun v s' hv hs' => Gen.ret ?_ hs')
    simp only; omega
end Go.Beacon

/- Streams, in the form that is stepped by one text: what can still be drawn is counted down. No program in sight. -/
set_option linter.unusedVariables false
set_option linter.unusedSimpArgs false
namespace Go.Beacon
open Go Go.Eng

theorem Next_k {s : Stm} {n K : Int} (hs : SOk s K) (hK : 1 ≤ K) (h1 : 1 ≤ n) (h2 : n ≤ 4611686018427387904) : Gen (Stream_Next s n) (K - 1) (fun v => 0 ≤ v ∧ v < n) :=
  Next_ok (hs.less (by omega)) h1 h2 (by omega)
theorem Flip_k {s : Stm} {n K : Int} (hs : SOk s K) (hK : 1 ≤ K) (h1 : 1 ≤ n) (h2 : n ≤ 4611686018427387904) : Gen (Stream_Flip s n) (K - 1) (fun _ => True) :=
  Flip_ok (hs.less (by omega)) h1 h2 (by omega)
theorem Pick_k {s : Stm} {l : List Int} {K : Int} (hs : SOk s K) (hK : 1 ≤ K) (h1 : l ≠ []) (h2 : l.length ≤ 1000) : Gen (Stream_Pick s l) (K - 1) (fun v => v ∈ l) :=
  Pick_ok (hs.less (by omega)) h1 h2 (by omega)
theorem Range_k {s : Stm} {a b K : Int} (hs : SOk s K) (hK : 1 ≤ K) (hab : a ≤ b) (ha : -1152921504606846976 ≤ a) (hb : b ≤ 1152921504606846976) : Gen (Stream_Range s a b) (K - 1) (fun v => a ≤ v ∧ v ≤ b) :=
  Range_ok (hs.less (by omega)) hab ha hb (by omega)
theorem Some_k {s : Stm} {l : List Str} {K : Int} (hs : SOk s K) (hK : 1 ≤ K) (h1 : l ≠ []) (h2 : l.length ≤ 1000) : Gen (Stream_Some s l) (K - 1) (fun v => v ∈ l) :=
  Some_ok (hs.less (by omega)) h1 h2 (by omega)
theorem Odd_k {s : Stm} {a b K : Int} (hs : SOk s K) (hK : 2 ≤ K) (hab : a ≤ b) (ha : -1099511627776 ≤ a) (hb : b ≤ 1099511627776) : Gen (Stream_Odd s a b) (K - 2) (fun v => -1099511627777 ≤ v ∧ v ≤ 1099511627777) :=
  Odd_ok (hs.less (by omega)) hab ha hb (by omega)
end Go.Beacon

/- Plain facts of keys: the program's check and the reference's. No program in sight. -/
set_option linter.unusedVariables false
set_option linter.unusedSimpArgs false
namespace Go.Beacon
open Go Go.Eng

theorem Out_eq (n lo hi : Int) : base_Out n lo hi = (decide (n < lo) || decide (hi < n)) := rfl
theorem Qin_eq (n lo hi : Int) : Q_in n lo hi = (decide (lo ≤ n) && decide (n ≤ hi)) := rfl
/-! keys -/
def okN (n : Nat) : Bool := (decide (97 ≤ n) && decide (n ≤ 122)) || (decide (48 ≤ n) && decide (n ≤ 57)) || decide (n = 45) || decide (n = 95)
def keyB : Str → Bool
  | [] => false
  | c :: r => decide ((c :: r).length ≤ 40) && (decide (97 ≤ c.toNat) && decide (c.toNat ≤ 122)) && (c :: r).all (fun c => okN c.toNat)
theorem keyB_cons (c : UInt8) (r : Str) : keyB (c :: r) = (decide ((c :: r).length ≤ 40) && (decide (97 ≤ c.toNat) && decide (c.toNat ≤ 122)) && (c :: r).all (fun c => okN c.toNat)) := rfl
theorem Key_loop (s : Str) (hl : s.length ≤ 40) : base_Key_l1 s 0 = some (s.all (fun c => okN c.toNat)) := by
  unfold base_Key_l1
  rw [iter_find s (fun x : Int => base_Key_b1 s x) (fun c => if okN c.toNat = true then none else some false) true (by omega), findE_bool]
  · intro i c h0 h1 hc
    have hB : (if (97 : Int) ≤ (c.toNat : Int) then if (c.toNat : Int) ≤ (122 : Int) then !true else if (48 : Int) ≤ (c.toNat : Int) then if (c.toNat : Int) ≤ (57 : Int) then !true else if (c.toNat : Int) = (45 : Int) then !true else decide (¬ ((c.toNat : Int) = (95 : Int))) else if (c.toNat : Int) = (45 : Int) then !true else decide (¬ ((c.toNat : Int) = (95 : Int))) else if (48 : Int) ≤ (c.toNat : Int) then if (c.toNat : Int) ≤ (57 : Int) then !true else if (c.toNat : Int) = (45 : Int) then !true else decide (¬ ((c.toNat : Int) = (95 : Int))) else if (c.toNat : Int) = (45 : Int) then !true else decide (¬ ((c.toNat : Int) = (95 : Int)))) = !okN c.toNat := by
      unfold okN
      rw [Bool.eq_iff_iff]
      repeat' split
      all_goals simp
      all_goals omega
    rw [base_Key_b1, if_pos h1, hc]
    simp only [Option.bind_some]
    rw [hB]
    unfold base_Key_j2
    rw [w64_in (by omega) (by omega)]
    cases okN c.toNat <;> rfl
  · rw [base_Key_b1, if_neg (by omega)]; rfl
theorem Key_eq (s : Str) : base_Key s = some (keyB s) := by
  unfold base_Key base_Key_j1
  cases s with
  | nil => simp [keyB]
  | cons c r =>
    rw [if_neg (by simp)]
    have hc : idx (c :: r) 0 = some c := rfl
    rw [hc]
    simp only [Option.bind_some]
    by_cases hl : (c :: r).length ≤ 40
    · rw [if_neg (by omega), Key_loop _ hl, keyB_cons]
      by_cases h1 : (c.toNat : Int) < 97
      · rw [if_pos h1]
        have : decide (97 ≤ c.toNat) = false := by simp; omega
        rw [this]; simp
      · rw [if_neg h1]
        have e1 : decide (97 ≤ c.toNat) = true := by simp; omega
        by_cases h2 : (122 : Int) < c.toNat
        · rw [if_pos (by simpa using h2)]
          have : decide (c.toNat ≤ 122) = false := by simp; omega
          rw [this]; simp
        · rw [if_neg (by simpa using h2)]
          have : decide (c.toNat ≤ 122) = true := by simp; omega
          rw [e1, this, decide_eq_true hl]; simp
    · rw [if_pos (by omega), keyB_cons, decide_eq_false hl]; simp
theorem chars_fin : ∀ n : Fin 256, decide (UInt8.ofNat n.val ∈ ([97, 98, 99, 100, 101, 102, 103, 104, 105, 106, 107, 108, 109, 110, 111, 112, 113, 114, 115, 116, 117, 118, 119, 120, 121, 122, 48, 49, 50, 51, 52, 53, 54, 55, 56, 57, 45, 95] : List UInt8)) = okN n.val := by decide +kernel
theorem low_fin : ∀ n : Fin 256, decide (UInt8.ofNat n.val ∈ ([97, 98, 99, 100, 101, 102, 103, 104, 105, 106, 107, 108, 109, 110, 111, 112, 113, 114, 115, 116, 117, 118, 119, 120, 121, 122] : List UInt8)) = (decide (97 ≤ n.val) && decide (n.val ≤ 122)) := by decide +kernel
theorem u8_fin {p : UInt8 → Bool} {q : Nat → Bool} (h : ∀ n : Fin 256, p (UInt8.ofNat n.val) = q n.val) (c : UInt8) : p c = q c.toNat := by
  have := h ⟨c.toNat, c.toNat_lt⟩
  simpa using this
theorem only_eq (s chars : Str) (hl : (s.length : Int) ≤ 4611686018427387904) : Q_only s chars = some (s.all (fun c => decide (c ∈ chars))) := by
  unfold Q_only Q_only_l1
  rw [iter_find s (fun x : Int => Q_only_b1 s chars x) (fun c => if decide (c ∈ chars) = true then none else some false) true hl, findE_bool]
  · intro i c h0 h1 hc
    rw [Q_only_b1, if_pos h1, hc]
    simp only [Option.bind_some, indexByteI, toU8]
    rw [w64_in (by omega) (by omega)]
    by_cases hm : c ∈ chars
    · rw [if_neg (fun h => (indexByte_nonneg _ _).1 h hm)]; simp [hm]
    · rw [if_pos ((indexByte_nonneg _ _).2 hm)]; simp [hm]
  · rw [Q_only_b1, if_neg (by omega)]; rfl
theorem QKey_eq (s : Str) : Q_Key s = some (keyB s) := by
  unfold Q_Key Q_Key_j1
  rw [Qin_eq]
  cases s with
  | nil => rfl
  | cons c r =>
    have hs : slc (c :: r) 0 1 = some [c] := by rw [slc_in (by omega) (by omega) (by simp; omega)]; simp
    rw [hs]
    simp only [Option.bind_some]
    by_cases hl : (c :: r).length ≤ 40
    · rw [if_pos (by simp; simp at hl; omega), only_eq _ _ (by simp)]
      simp only [Option.bind_some, List.all_cons, List.all_nil, Bool.and_true]
      rw [only_eq _ _ (by omega)]
      simp only [Option.bind_some]
      rw [u8_fin (p := fun c => decide (c ∈ ([97, 98, 99, 100, 101, 102, 103, 104, 105, 106, 107, 108, 109, 110, 111, 112, 113, 114, 115, 116, 117, 118, 119, 120, 121, 122] : List UInt8))) (q := fun n => decide (97 ≤ n) && decide (n ≤ 122)) low_fin c]
      have e : (c :: r).all (fun c => decide (c ∈ ([97, 98, 99, 100, 101, 102, 103, 104, 105, 106, 107, 108, 109, 110, 111, 112, 113, 114, 115, 116, 117, 118, 119, 120, 121, 122, 48, 49, 50, 51, 52, 53, 54, 55, 56, 57, 45, 95] : List UInt8))) = (c :: r).all (fun c => okN c.toNat) := by
        congr 1; funext c
        exact u8_fin (p := fun c => decide (c ∈ ([97, 98, 99, 100, 101, 102, 103, 104, 105, 106, 107, 108, 109, 110, 111, 112, 113, 114, 115, 116, 117, 118, 119, 120, 121, 122, 48, 49, 50, 51, 52, 53, 54, 55, 56, 57, 45, 95] : List UInt8))) chars_fin c
      rw [e, keyB_cons, decide_eq_true hl, Bool.true_and]
      split
      · rename_i h; rw [h]; simp
      · rename_i h
        rw [Bool.not_eq_true] at h
        rw [h]; simp
    · rw [if_neg (by simp; simp at hl; omega), keyB_cons, decide_eq_false hl]; rfl

theorem CompareI_eq (a b : Int) : cmp_Compare_int a b = cmpI a b := by
  unfold cmp_Compare_int cmp_isNaN_int cmpI; simp
theorem Moment_eq (n : Int) : base_Moment n = (decide (0 ≤ n) && decide (n ≤ 345686399999)) := by
  unfold base_Moment
  rw [Out_eq, Bool.eq_iff_iff]
  simp
theorem QMoment_eq (n : Int) : Q_Moment n = (decide (0 ≤ n) && decide (n ≤ 345686399999)) := rfl
end Go.Beacon

/- Plain facts: loops by a measure, products within bounds, quotients rounded down. No program in sight. -/
set_option linter.unusedVariables false
set_option linter.unusedSimpArgs false
namespace Go.Beacon
open Go Go.Eng

/-- A loop whose rounds keep something and make a number smaller ends; what its last round tells holds. -/
theorem iter_inv {S A : Type} (f : S → Option (S ⊕ A)) (m : S → Nat) (Inv : S → Prop) (R : A → Prop)
    (h : ∀ s, Inv s → (∃ s', f s = some (.inl s') ∧ Inv s' ∧ m s' < m s) ∨ (∃ a, f s = some (.inr a) ∧ R a)) : ∀ s, Inv s → ∃ a, iter f s = some a ∧ R a := by
  have key : ∀ (n : Nat) s, m s ≤ n → Inv s → ∃ a, iter f s = some a ∧ R a := by
    intro n
    induction n with
    | zero =>
      intro s hm hi
      rcases h s hi with ⟨s', _, _, h3⟩ | ⟨a, h1, h2⟩
      · omega
      · exact ⟨a, by rw [iter_eq, h1]; rfl, h2⟩
    | succ n ih =>
      intro s hm hi
      rcases h s hi with ⟨s', h1, h2, h3⟩ | ⟨a, h1, h2⟩
      · obtain ⟨a, h4, h5⟩ := ih s' (by omega) h2
        exact ⟨a, by rw [iter_eq, h1]; simpa using h4, h5⟩
      · exact ⟨a, by rw [iter_eq, h1]; rfl, h2⟩
  exact fun s hi => key (m s) s (Nat.le_refl _) hi
/-- The same, for a result that may be missing. -/
theorem iter_to {S A : Type} (f : S → Option (S ⊕ A)) (m : S → Nat) (Inv : S → Prop) (r : Option A)
    (h : ∀ s, Inv s → (∃ s', f s = some (.inl s') ∧ Inv s' ∧ m s' < m s) ∨ f s = r.map .inr) : ∀ s, Inv s → iter f s = r := by
  have key : ∀ (n : Nat) s, m s ≤ n → Inv s → iter f s = r := by
    intro n
    induction n with
    | zero =>
      intro s hm hi
      rcases h s hi with ⟨s', _, _, h3⟩ | h1
      · omega
      · rw [iter_eq, h1, map_inr_after]
    | succ n ih =>
      intro s hm hi
      rcases h s hi with ⟨s', h1, h2, h3⟩ | h1
      · rw [iter_eq, h1]; simpa using ih s' (by omega) h2
      · rw [iter_eq, h1, map_inr_after]
  exact fun s hi => key (m s) s (Nat.le_refl _) hi
theorem orL2 (x y : Int) : orL [x, y] = if x ≠ 0 then x else y := by
  by_cases h1 : x = 0 <;> by_cases h2 : y = 0 <;> simp [orL, h1, h2]
end Go.Beacon

/- Plain functions that end, and what their results are like: one lemma for each step. No program in sight. -/
set_option linter.unusedVariables false
set_option linter.unusedSimpArgs false
namespace Go.Beacon
open Go Go.Eng

/-- It ends, and its result is so. -/
def Ok {α : Type} (m : Option α) (Q : α → Prop) : Prop := ∃ r, m = some r ∧ Q r
theorem Ok.ret {α : Type} {v : α} {Q : α → Prop} (h : Q v) : Ok (some v) Q := ⟨v, rfl, h⟩
theorem Ok.mono {α : Type} {m : Option α} {P Q : α → Prop} (h : Ok m P) (hp : ∀ v, P v → Q v) : Ok m Q := by
  obtain ⟨r, h1, h2⟩ := h; exact ⟨r, h1, hp r h2⟩
theorem Ok.bind {α β : Type} {m : Option α} {f : α → Option β} {P : α → Prop} {Q : β → Prop} (h : Ok m P) (hf : ∀ v, P v → Ok (f v) Q) : Ok (m.bind f) Q := by
  obtain ⟨r, rfl, h2⟩ := h; exact hf r h2
theorem Ok.inr {α β : Type} {m : Option β} {Q : α ⊕ β → Prop} (h : Ok m (fun r => Q (.inr r))) : Ok (Option.map .inr m) Q := by
  obtain ⟨r, rfl, h2⟩ := h; exact ⟨_, rfl, h2⟩
theorem Ok.gen {α β : Type} {m : Option (α × Stm)} {k : Int} {P : α → Prop} {f : α × Stm → Option β} {Q : β → Prop} (h : Gen m k P) (hf : ∀ v s', P v → SOk s' k → Ok (f (v, s')) Q) : Ok (m.bind f) Q := by
  obtain ⟨v, s', rfl, h1, h2⟩ := h; exact hf v s' h1 h2
theorem Gen.of {α : Type} {m : Option (α × Stm)} {k : Int} {P : α → Prop} (h : Ok m (fun r => P r.1 ∧ SOk r.2 k)) : Gen m k P := by
  obtain ⟨⟨v, s⟩, h1, h2, h3⟩ := h; exact ⟨v, s, h1, h2, h3⟩
theorem Ok.idx {α β : Type} {xs : List α} {i : Int} {f : α → Option β} {Q : β → Prop} (h0 : 0 ≤ i) (h1 : i < xs.length) (hf : ∀ x, idx xs i = some x → x ∈ xs → Ok (f x) Q) : Ok ((idx xs i).bind f) Q := by
  obtain ⟨x, hx, hm, _⟩ := idx_lt xs h0 h1
  rw [hx]; exact hf x hx hm
theorem Ok.app {α β : Type} {xs ys : List α} {f : List α → Option β} {Q : β → Prop} (h : xs.length + ys.length ≤ 1000000000) (hf : Ok (f (xs ++ ys)) Q) : Ok ((app xs ys).bind f) Q := by
  rw [app_le h]; exact hf
theorem cat_le {a b : Str} (h : a.length + b.length ≤ 9223372036854775807) : catO a b = some (a ++ b) := by unfold catO; rw [if_pos h]
/-- What a round of a loop may tell: it keeps something and makes a number smaller, or it is the last. -/
abbrev Stp {S A : Type} (m : S → Nat) (Inv : S → Prop) (R : A → Prop) (s : S) : S ⊕ A → Prop
  | .inl s' => Inv s' ∧ m s' < m s
  | .inr a => R a
theorem Ok.iter {S A : Type} {f : S → Option (S ⊕ A)} {R : A → Prop} (m : S → Nat) (Inv : S → Prop)
    (h : ∀ s, Inv s → Ok (f s) (Stp m Inv R s)) (s : S) (hs : Inv s) : Ok (iter f s) R := by
  refine iter_inv f m Inv R (fun s hi => ?_) s hs
  obtain ⟨r, h1, h2⟩ := h s hi
  cases r with
  | inl s' => exact .inl ⟨s', h1, h2.1, h2.2⟩
  | inr a => exact .inr ⟨a, h1, h2⟩
/-- The same loops are the same. -/
theorem iter_same {S A : Type} {f g : S → Option (S ⊕ A)} (h : ∀ s, f s = g s) (s : S) : iter f s = iter g s := by rw [funext h]
end Go.Beacon

/- Strings cut at one byte. No program in sight. -/
set_option linter.unusedVariables false
set_option linter.unusedSimpArgs false
namespace Go.Beacon
open Go Go.Eng

/-- A string cut at each byte c. -/
def splitC (c : UInt8) : Str → List Str
  | [] => [[]]
  | b :: r => if b = c then [] :: splitC c r else match splitC c r with
    | [] => [[b]]
    | h :: t => (b :: h) :: t
theorem splitC_length (c : UInt8) : ∀ s, (splitC c s).length ≤ s.length + 1
  | [] => by simp [splitC]
  | b :: r => by
    have ih := splitC_length c r
    unfold splitC
    split
    · simp; omega
    · split
      · simp
      · rename_i h t e; rw [e] at ih; simp at ih ⊢; omega
theorem split_C (c : UInt8) : ∀ s, Lib.split s [c] = splitC c s
  | [] => rfl
  | b :: r => by
    have ih := split_C c r
    unfold Lib.split at ih ⊢
    unfold splitC
    by_cases hb : b = c
    · subst hb
      have hix : Lib.index (b :: r) [b] = 0 := by rw [Lib.index]; simp [List.isPrefixOf]
      rw [if_pos rfl, Lib.count_cons_eq, Nat.add_comm, Lib.splitK, hix, ← ih]
      simp
    · rw [if_neg hb, Lib.count_cons_ne b c r hb, ← ih]
      have hp : ([c] : List UInt8).isPrefixOf (b :: r) = false := by simp [List.isPrefixOf, Ne.symm hb]
      have hix : Lib.index (b :: r) [c] = if Lib.index r [c] == -1 then -1 else Lib.index r [c] + 1 := by rw [Lib.index, hp]; simp
      by_cases hm : Lib.index r [c] = -1
      · rw [Lib.count_miss hm]; rfl
      · have hge := Lib.index_ge r [c]
        obtain ⟨j, hj⟩ : ∃ j : Nat, Lib.index r [c] = j := ⟨(Lib.index r [c]).toNat, by omega⟩
        have hix' : Lib.index (b :: r) [c] = ((j + 1 : Nat) : Int) := by rw [hix, if_neg (fun e => hm (beq_iff_eq.1 e)), hj]; omega
        rw [Lib.count_hit (by simp) hj, Nat.add_comm]
        have n1 : ¬ ((((j + 1 : Nat) : Int) == -1) = true) := fun h => by have := beq_iff_eq.1 h; omega
        have n2 : ¬ ((((j : Nat) : Int) == -1) = true) := fun h => by have := beq_iff_eq.1 h; omega
        simp only [Lib.splitK, hix', hj, if_neg n1, if_neg n2]
        simp [List.take_succ_cons]
/-- strings.Split at one byte. -/
theorem splitO_eq {s : Str} {c : UInt8} (h : s.length ≤ 1000000000) : splitO s [c] = some (splitC c s) := by
  unfold splitO
  rw [if_pos ⟨by omega, by simp⟩]
  congr 1
  have h1 := Lib.splitB_data ⟨#[c]⟩ 0 (Lib.countB ⟨s.toArray⟩ ⟨#[c]⟩) ⟨s.toArray⟩
  rw [← split_C]
  exact h1
end Go.Beacon

/- Numbers in their one spelling: what both readers of numbers take. No program in sight. -/
set_option linter.unusedVariables false
set_option linter.unusedSimpArgs false
namespace Go.Beacon
open Go Go.Eng

def isDig (c : UInt8) : Bool := decide (48 ≤ c.toNat) && decide (c.toNat ≤ 57)
theorem isDig_val {c : UInt8} (h : isDig c = true) : Lib.digitVal c = some (c.toNat - 48) := by
  unfold isDig at h; simp at h
  unfold Lib.digitVal; rw [if_pos h]
theorem val_dig {c : UInt8} {d : Nat} (h : Lib.digitVal c = some d) : isDig c = true ∧ d = c.toNat - 48 ∧ UInt8.ofNat (48 + d) = c := by
  obtain ⟨h1, h2, h3⟩ := Lib.digitVal_eq h
  refine ⟨by unfold isDig; simp; omega, h3, ?_⟩
  apply UInt8.toNat_inj.1
  rw [UInt8.toNat_ofNat']
  omega
theorem decFrom_all : ∀ (l : Str) (acc : Nat), l.all isDig = true → ∃ m, Lib.decFrom acc l = some m
  | [], acc, _ => ⟨acc, rfl⟩
  | b :: r, acc, h => by
    simp only [List.all_cons, Bool.and_eq_true] at h
    obtain ⟨m, hm⟩ := decFrom_all r (acc * 10 + (b.toNat - 48)) h.2
    exact ⟨m, by rw [Lib.decFrom, isDig_val h.1]; exact hm⟩
theorem dec_grow : ∀ (l : Str) (acc m : Nat), 0 < acc → Lib.decFrom acc l = some m → Lib.decDigits m = Lib.decDigits acc ++ l
  | [], acc, m, _, h => by simp only [Lib.decFrom, Option.some.injEq] at h; simp [h]
  | b :: r, acc, m, ha, h => by
    rw [Lib.decFrom] at h
    cases hd : Lib.digitVal b with
    | none => rw [hd] at h; simp at h
    | some d =>
      rw [hd] at h
      obtain ⟨h1, h2, h3⟩ := Lib.digitVal_eq hd
      have ih := dec_grow r (acc * 10 + d) m (by omega) h
      rw [ih, Lib.decDigits, dif_neg (by omega)]
      rw [show (acc * 10 + d) / 10 = acc by omega, show (acc * 10 + d) % 10 = d by omega, (val_dig hd).2.2]
      simp
theorem dec_head {m : Nat} (h : 0 < m) : ∃ b r, Lib.decDigits m = b :: r ∧ b ≠ 48 := by
  induction m using Nat.strongRecOn with
  | _ m ih =>
    rw [Lib.decDigits]
    split
    · refine ⟨_, _, rfl, ?_⟩
      intro e
      have := congrArg UInt8.toNat e
      rw [UInt8.toNat_ofNat'] at this
      simp at this; omega
    · obtain ⟨b, r, h1, h2⟩ := ih (m / 10) (by omega) (by omega)
      exact ⟨b, r ++ _, by rw [h1]; rfl, h2⟩
theorem dec_zero : Lib.decDigits 0 = [48] := by rw [Lib.decDigits, dif_pos (by omega)]; rfl
/-- Digits without a 0 ahead: the one spelling. -/
theorem dec_spelled {l : Str} {m : Nat} (h : Lib.decFrom 0 l = some m) (hl : l ≠ []) : Lib.decDigits m = l ↔ (l.head? ≠ some 48 ∨ l.length = 1) := by
  cases l with
  | nil => exact absurd rfl hl
  | cons b r =>
    rw [Lib.decFrom] at h
    cases hd : Lib.digitVal b with
    | none => rw [hd] at h; simp at h
    | some d =>
      rw [hd] at h
      simp only [Nat.zero_mul, Nat.zero_add] at h
      obtain ⟨h1, h2, h3⟩ := Lib.digitVal_eq hd
      by_cases hz : d = 0
      · subst hz
        have hb : b = 48 := by rw [← (val_dig hd).2.2]; rfl
        subst hb
        constructor
        · intro e
          right
          by_cases hm : m = 0
          · subst hm; rw [dec_zero] at e
            have := congrArg List.length e; simpa using this.symm
          · obtain ⟨b, r', h4, h5⟩ := dec_head (m := m) (by omega)
            rw [h4] at e; simp at e; exact absurd e.1 h5
        · rintro (e | e)
          · simp at e
          · have : r = [] := by cases r with
              | nil => rfl
              | cons _ _ => simp at e
            subst this
            simp only [Lib.decFrom, Option.some.injEq] at h
            subst h; exact dec_zero
      · have hg := dec_grow r d m (by omega) h
        have hd1 : Lib.decDigits d = [UInt8.ofNat (48 + d)] := by rw [Lib.decDigits, dif_pos (by omega)]
        rw [hd1, (val_dig hd).2.2] at hg
        constructor
        · intro _; left
          intro e; simp at e
          have e2 := (val_dig hd).2.1
          rw [e] at e2; simp at e2; omega
        · intro _; exact hg
theorem dec_digs (m : Nat) : (Lib.decDigits m).all isDig = true := by
  induction m using Nat.strongRecOn with
  | _ m ih =>
    rw [Lib.decDigits]
    have key : ∀ d, d < 10 → isDig (UInt8.ofNat (48 + d)) = true := by
      intro d hd
      unfold isDig; rw [UInt8.toNat_ofNat']; simp; omega
    split
    · rename_i h; rw [List.all_cons, key m h]; rfl
    · rw [List.all_append, ih (m / 10) (by omega), List.all_cons, key (m % 10) (by omega)]; rfl
theorem decFrom_append : ∀ (l r : Str) (acc : Nat), Lib.decFrom acc (l ++ r) = (Lib.decFrom acc l).bind fun a => Lib.decFrom a r
  | [], r, acc => rfl
  | b :: l, r, acc => by
    rw [List.cons_append, Lib.decFrom, Lib.decFrom]
    cases Lib.digitVal b with
    | none => rfl
    | some d => exact decFrom_append l r _
theorem decFrom_digs (m : Nat) : Lib.decFrom 0 (Lib.decDigits m) = some m := by
  induction m using Nat.strongRecOn with
  | _ m ih =>
    have key : ∀ d, d < 10 → Lib.digitVal (UInt8.ofNat (48 + d)) = some d := by
      intro d hd
      unfold Lib.digitVal; rw [UInt8.toNat_ofNat']
      rw [if_pos (by omega)]; congr 1; omega
    rw [Lib.decDigits]
    split
    · rename_i h; rw [Lib.decFrom, key m h]; simp [Lib.decFrom]
    · rw [decFrom_append, ih (m / 10) (by omega)]
      simp only [Option.bind_some]
      rw [Lib.decFrom, key (m % 10) (by omega)]
      simp only [Lib.decFrom]
      congr 1; omega
theorem dec_ne (m : Nat) : Lib.decDigits m ≠ [] := by
  rw [Lib.decDigits]; split
  · simp
  · simp
/-- What is written is read. -/
theorem atoi_itoa (n : Int) : Lib.atoi (Lib.itoa n) = some n := by
  unfold Lib.itoa
  have hN : ∀ m, Lib.decNat (Lib.decDigits m) = some m := by
    intro m; unfold Lib.decNat
    rw [if_neg (by simpa using dec_ne m), decFrom_digs]
  split
  · rw [Lib.atoi]; simp [hN]; omega
  · obtain ⟨b, r, e⟩ := List.exists_cons_of_ne_nil (dec_ne n.toNat)
    have hd := dec_digs n.toNat
    rw [e] at hd ⊢
    simp only [List.all_cons, Bool.and_eq_true] at hd
    have hb := hd.1
    unfold isDig at hb; simp at hb
    have n45 : b ≠ 45 := fun h => by subst h; simp at hb
    have n43 : b ≠ 43 := fun h => by subst h; simp at hb
    rw [Lib.atoi]
    simp only [beq_iff_eq, n45, n43, if_false]
    rw [← e, hN]; simp; omega

/-- The number that a string of at most so many digits spells, in its one spelling. -/
def numT (s : Str) (k : Int) : Option Int :=
  if (Lib.trimPrefix s [45] = [] ∨ k < (Lib.trimPrefix s [45]).length) ∨ (Lib.trimPrefix s [45]).all isDig = false then none
  else match Lib.atoi s with
    | some n => if Lib.itoa n = s then some n else none
    | none => none
theorem trimP_cases (s : Str) : (∃ d, s = 45 :: d ∧ Lib.trimPrefix s [45] = d) ∨ (Lib.trimPrefix s [45] = s ∧ s.head? ≠ some 45) := by
  cases s with
  | nil => right; exact ⟨rfl, by simp⟩
  | cons b r =>
    unfold Lib.trimPrefix
    by_cases h : b = 45
    · subst h; left; exact ⟨r, rfl, by simp [Lib.hasPrefix, List.isPrefixOf]⟩
    · right
      have hp : Lib.hasPrefix (b :: r) [45] = false := by simp [Lib.hasPrefix, List.isPrefixOf, Ne.symm h]
      rw [hp]; exact ⟨by simp, by simpa using h⟩
theorem trimP_length (s : Str) : (Lib.trimPrefix s [45]).length ≤ s.length ∧ s.length ≤ (Lib.trimPrefix s [45]).length + 1 := by
  rcases trimP_cases s with ⟨d, h1, h2⟩ | ⟨h1, _⟩
  · rw [h2, h1]; simp
  · rw [h1]; omega
theorem atoiAll_of {s : Str} {n : Int} (hl : s.length ≤ 18) (h : Lib.atoi s = some n) : Lib.atoiAll s = .ok n := by
  rw [Lib.atoiAll_short s hl, h]; rfl
/-- Digits behind an optional sign spell a number. -/
theorem atoi_digs {s : Str} (h1 : Lib.trimPrefix s [45] ≠ []) (h2 : (Lib.trimPrefix s [45]).all isDig = true) : ∃ n, Lib.atoi s = some n ∧ (Lib.itoa n = s ↔ ¬((Lib.trimPrefix s [45]).head? = some 48 ∧ (1 < (Lib.trimPrefix s [45]).length ∨ (Lib.trimPrefix s [45]).length < s.length))) := by
  rcases trimP_cases s with ⟨d, e1, e2⟩ | ⟨e1, e2⟩
  · rw [e2] at h1 h2 ⊢
    subst e1
    obtain ⟨m, hm⟩ := decFrom_all d 0 h2
    have hN : Lib.decNat d = some m := by unfold Lib.decNat; rw [if_neg (by simpa using h1), hm]
    refine ⟨-(m : Int), by rw [Lib.atoi]; simp [hN], ?_⟩
    have hs := dec_spelled hm h1
    have hlen : d.length < (45 :: d).length := by simp
    constructor
    · rintro e ⟨hh, _⟩
      unfold Lib.itoa at e
      split at e
      · have e' : Lib.decDigits m = d := by simpa using e
        rename_i hneg
        obtain ⟨b, r, h4, h5⟩ := dec_head (m := m) (by omega)
        rw [e'] at h4; rw [h4] at hh; simp at hh; exact h5 hh
      · have := dec_digs (-(m : Int)).toNat
        rw [e] at this; simp [isDig] at this
    · intro hn
      have hh : d.head? ≠ some 48 := fun hh => hn ⟨hh, .inr hlen⟩
      have e' := hs.2 (.inl hh)
      have hm0 : m ≠ 0 := by
        intro h0; subst h0; rw [dec_zero] at e'; subst e'; simp at hh
      unfold Lib.itoa
      rw [if_pos (by omega)]
      simp [e']
  · rw [e1] at h1 h2 ⊢
    obtain ⟨m, hm⟩ := decFrom_all s 0 h2
    have hN : Lib.decNat s = some m := by unfold Lib.decNat; rw [if_neg (by simpa using h1), hm]
    have hs := dec_spelled hm h1
    cases s with
    | nil => exact absurd rfl h1
    | cons b r =>
      have n45 : b ≠ 45 := by simpa using e2
      have hb : isDig b = true := by simp only [List.all_cons, Bool.and_eq_true] at h2; exact h2.1
      have n43 : b ≠ 43 := fun h => by subst h; simp [isDig] at hb
      refine ⟨m, by rw [Lib.atoi]; simp only [beq_iff_eq, n45, n43, if_false]; rw [hN]; rfl, ?_⟩
      have hi : Lib.itoa (m : Int) = Lib.decDigits m := by unfold Lib.itoa; rw [if_neg (by omega)]; simp
      rw [hi, hs]
      constructor
      · rintro (h | h) ⟨h3, h4⟩
        · exact h h3
        · omega
      · intro h
        by_cases hh : (b :: r).head? = some 48
        · right
          have : ¬ (1 < (b :: r).length) := fun h5 => h ⟨hh, .inl h5⟩
          simp at this ⊢; omega
        · exact .inl hh
theorem numT_bound {s : Str} {k : Nat} {n : Int} (h : numT s k = some n) : -(10 ^ k : Nat) < n ∧ n < (10 ^ k : Nat) := by
  unfold numT at h
  split at h
  · cases h
  · rename_i hc
    cases ha : Lib.atoi s with
    | none => rw [ha] at h; cases h
    | some n' =>
      rw [ha] at h
      simp only at h
      split at h
      · obtain rfl := Option.some.inj h
        simp only [not_or] at hc
        have hall : (Lib.trimPrefix s [45]).all isDig = true := by simpa using hc.2
        have hlen : (Lib.trimPrefix s [45]).length ≤ k := by have := hc.1.2; omega
        obtain ⟨m, hm⟩ := decFrom_all _ 0 hall
        have hb := Lib.decFrom_lt _ 0 m hm
        have hp : (10 : Nat) ^ (Lib.trimPrefix s [45]).length ≤ 10 ^ k := Nat.pow_le_pow_right (by omega) hlen
        have hmk : m < 10 ^ k := by omega
        have hnm : n' = m ∨ n' = -(m : Int) := by
          have hN : Lib.decNat (Lib.trimPrefix s [45]) = some m := by unfold Lib.decNat; rw [if_neg (by simpa using hc.1.1), hm]
          rcases trimP_cases s with ⟨d, e1, e2⟩ | ⟨e1, e2⟩
          · rw [e2] at hN; rw [e1, Lib.atoi] at ha; simp [hN] at ha; right; omega
          · rw [e1] at hN hall
            cases s with
            | nil => simp [Lib.atoi] at ha
            | cons b r =>
              have n45 : b ≠ 45 := by simpa using e2
              have hb : isDig b = true := by simp only [List.all_cons, Bool.and_eq_true] at hall; exact hall.1
              have n43 : b ≠ 43 := fun h => by subst h; simp [isDig] at hb
              rw [Lib.atoi] at ha
              simp only [beq_iff_eq, n45, n43, if_false] at ha
              rw [hN] at ha; simp at ha; left; omega
        omega
      · cases h
theorem numT_itoa {n : Int} {k : Int} (h : ((Lib.decDigits n.natAbs).length : Int) ≤ k) : numT (Lib.itoa n) k = some n := by
  have ht : Lib.trimPrefix (Lib.itoa n) [45] = Lib.decDigits n.natAbs := by
    unfold Lib.itoa
    split
    · unfold Lib.trimPrefix; simp [Lib.hasPrefix, List.isPrefixOf]
    · rename_i h0
      rw [show n.toNat = n.natAbs by omega]
      rcases trimP_cases (Lib.decDigits n.natAbs) with ⟨d, e1, e2⟩ | ⟨e1, e2⟩
      · have := dec_digs n.natAbs; rw [e1] at this; simp [isDig] at this
      · exact e1
  unfold numT
  rw [ht, if_neg (by
    rintro ((h1 | h1) | h1)
    · exact dec_ne _ h1
    · omega
    · rw [dec_digs] at h1; cases h1), atoi_itoa]
  simp
theorem Number_loop (s : Str) (hl : s.length ≤ 18) : base_Number_l1 s 0 = if (Lib.trimPrefix s [45]).all isDig = true then base_Number_k3 s else some (0, false) := by
  unfold base_Number_l1
  have hd : ((Lib.trimPrefix s [45]).length : Int) ≤ 4611686018427387904 := by have := trimP_length s; omega
  refine iter_to (fun x : Int => base_Number_b1 s x) (fun i => (Lib.trimPrefix s [45]).length + 1 - i.toNat) (fun i => 0 ≤ i ∧ i ≤ (Lib.trimPrefix s [45]).length ∧ ((Lib.trimPrefix s [45]).take i.toNat).all isDig = true) _ ?_ 0 ⟨by omega, by omega, by simp⟩
  rintro i ⟨h0, h1, h2⟩
  by_cases hi : i < (Lib.trimPrefix s [45]).length
  · obtain ⟨c, hc, _, hdr⟩ := idx_lt (Lib.trimPrefix s [45]) h0 hi
    have hg := (idx_some hc).2.2
    have hmem : c ∈ Lib.trimPrefix s [45] := idx_mem hc
    have hB : base_Number_b1 s i = if isDig c = true then some (.inl (w64 (i + 1))) else Option.map .inr (some ((0 : Int), false)) := by
      unfold base_Number_b1
      rw [if_pos hi, hc]
      simp only [Option.bind_some]
      unfold base_Number_j2 isDig
      by_cases a1 : (c.toNat : Int) < 48
      · rw [if_pos a1, if_pos rfl, if_neg (by simp; omega)]
      · rw [if_neg a1]
        by_cases a2 : (57 : Int) < c.toNat
        · rw [if_pos (by simpa using a2), if_neg (by simp; omega)]
        · rw [if_neg (by simpa using a2), if_pos (by simp; omega)]
    by_cases hdg : isDig c = true
    · left
      refine ⟨i + 1, ?_, ⟨by omega, by omega, ?_⟩, by omega⟩
      · show base_Number_b1 s i = _
        rw [hB, if_pos hdg, w64_in (by omega) (by omega)]
      · rw [show (i + 1).toNat = i.toNat + 1 by omega, List.take_add_one, List.all_append, h2, hg]; simp [hdg]
    · right
      show base_Number_b1 s i = _
      rw [hB, if_neg hdg, if_neg (fun h => hdg (List.all_eq_true.1 h c hmem))]
  · right
    show base_Number_b1 s i = _
    unfold base_Number_b1
    rw [if_neg hi]
    rw [List.take_of_length_le (by omega)] at h2
    rw [if_pos h2]
theorem atoiO_eq {s : Str} {n : Int} (hl : s.length ≤ 18) (h : Lib.atoi s = some n) : atoiO s = some (n, true) := by
  unfold atoiO; rw [if_pos (by omega), atoiAll_of hl h]
/-- The program's reader of numbers. -/
theorem Number_eq (s : Str) (k : Nat) (hk : k ≤ 17) : base_Number s k = some (match numT s k with | some n => (n, true) | none => (0, false)) := by
  have hln := trimP_length s
  unfold base_Number base_Number_j1
  by_cases h1 : Lib.trimPrefix s [45] = []
  · rw [if_pos h1, if_pos rfl]; unfold numT; rw [if_pos (.inl (.inl h1))]
  · rw [if_neg h1]
    by_cases h2 : (k : Int) < (Lib.trimPrefix s [45]).length
    · rw [if_pos h2, if_pos rfl]; unfold numT; rw [if_pos (.inl (.inr h2))]
    · rw [if_neg h2]
      have hpos : 0 < (Lib.trimPrefix s [45]).length := List.length_pos_iff.2 h1
      obtain ⟨c, hc, _, _⟩ := idx_lt (Lib.trimPrefix s [45]) (i := 0) (by omega) (by omega)
      have hh : (Lib.trimPrefix s [45]).head? = some c := by
        have := (idx_some hc).2.2
        rw [List.head?_eq_getElem?]; simpa using this
      rw [hc]
      simp only [Option.bind_some]
      rw [Number_loop s (by omega)]
      by_cases hall : (Lib.trimPrefix s [45]).all isDig = true
      · obtain ⟨n, hn, hiff⟩ := atoi_digs h1 hall
        have hnT : numT s k = if Lib.itoa n = s then some n else none := by
          unfold numT
          rw [if_neg (fun h => h.elim (fun h => h.elim h1 h2) (fun h => by rw [hall] at h; cases h)), hn]
        have hcond : (decide ((c.toNat : Int) = 48) && (decide ((1 : Int) < (Lib.trimPrefix s [45]).length) || decide (((Lib.trimPrefix s [45]).length : Int) < s.length))) = true ↔ ¬ Lib.itoa n = s := by
          rw [hiff, hh]
          simp only [Bool.and_eq_true, decide_eq_true_eq, Bool.or_eq_true, Option.some.injEq, Classical.not_not]
          constructor
          · rintro ⟨a, b⟩; exact ⟨UInt8.toNat_inj.1 (by simpa using (by omega : c.toNat = 48)), by omega⟩
          · rintro ⟨a, b⟩; exact ⟨by rw [a]; rfl, by omega⟩
        by_cases hi : Lib.itoa n = s
        · rw [if_neg (fun h => hcond.1 h hi), if_pos hall, hnT, if_pos hi]
          unfold base_Number_k3
          rw [atoiO_eq (by omega) hn]; rfl
        · rw [if_pos (hcond.2 hi), hnT, if_neg hi]
      · have hnT : numT s k = none := by unfold numT; rw [if_pos (.inr (by simpa using hall))]
        rw [hnT, if_neg hall]; simp
end Go.Beacon

/- Versions and images: checks, order, texts. No program in sight. -/
set_option linter.unusedVariables false
set_option linter.unusedSimpArgs false
namespace Go.Beacon
open Go Go.Eng

theorem cmpI_z {a b : Int} : cmpI a b = 0 ↔ a = b := by
  unfold cmpI; repeat' split
  all_goals omega
/-! checks -/
def verB (v : Version) : Bool := (decide (0 ≤ v.Major) && decide (v.Major ≤ 9999)) && (decide (0 ≤ v.Minor) && decide (v.Minor ≤ 9999)) && (decide (0 ≤ v.Patch) && decide (v.Patch ≤ 9999))
theorem Version_chk (v : Version) : base_Version v = verB v := by
  unfold base_Version base_Version_j1 verB
  rw [Out_eq, Out_eq, Out_eq, Bool.eq_iff_iff]
  simp; omega
theorem Qver_eq (v : Version) : Q_versionFault v = if verB v = true then 0 else 1 := by
  unfold Q_versionFault Q_versionFault_j1
  rw [Qin_eq, Qin_eq, Qin_eq]
  by_cases h : verB v = true
  · rw [if_pos h, if_neg]; unfold verB at h; simp at h ⊢; omega
  · rw [if_neg h, if_pos]; unfold verB at h; simp at h ⊢; omega
/-- Several numbers. -/
def numsT (k : Int) : List Str → Option (List Int)
  | [] => some []
  | w :: r => match numT w k, numsT k r with
    | some n, some l => some (n :: l)
    | _, _ => none
theorem Numbers_loop (ws : List Str) (k : Nat) (hk : k ≤ 17) (hl : ws.length ≤ 100000000) : ∀ (m : Nat) (l : List Int) (i : Int), 0 ≤ i → i + m = ws.length → (l.length : Int) = i →
    base_Numbers_l1 ws k l i = some (match numsT k (ws.drop i.toNat) with | some r => (l ++ r, true) | none => ([], false))
  | 0, l, i, h0, hm, he => by
    unfold base_Numbers_l1
    rw [iter_eq, base_Numbers_b1, if_neg (by simp only; omega), map_inr_after, List.drop_of_length_le (by omega)]
    simp [numsT]
  | m + 1, l, i, h0, hm, he => by
    have ih := Numbers_loop ws k hk hl m
    unfold base_Numbers_l1 at ih ⊢
    obtain ⟨w, hw, _, hd⟩ := idx_lt ws h0 (by omega)
    rw [iter_eq, base_Numbers_b1, if_pos (by simp only; omega)]
    simp only [hw, Option.bind_some]
    rw [Number_eq w k hk, hd, numsT]
    simp only [Option.bind_some]
    cases hn : numT w k with
    | none => simp [after]
    | some n =>
      simp only [Bool.not_true, Bool.false_eq_true, if_false]
      rw [app_le (by simp; omega)]
      simp only [Option.bind_some, after_inl]
      rw [w64_in (by omega) (by omega), ih (l ++ [n]) (i + 1) (by omega) (by omega) (by simp; omega)]
      cases numsT k (ws.drop (i + 1).toNat) with
      | none => rfl
      | some r => simp
theorem Numbers_eq (ws : List Str) (k : Nat) (hk : k ≤ 17) (hl : ws.length ≤ 100000000) : base_Numbers ws k = some (match numsT k ws with | some r => (r, true) | none => ([], false)) := by
  unfold base_Numbers
  rw [Numbers_loop ws k hk hl ws.length [] 0 (by omega) (by omega) (by simp)]
  simp
/-- The version that a string spells. -/
def verOf (s : Str) : Option Version := match numsT 4 (splitC 46 s) with
  | some [x, y, z] => if 0 ≤ x ∧ 0 ≤ y ∧ 0 ≤ z then some ⟨x, y, z⟩ else none
  | _ => none
theorem len3 {α : Type} : ∀ {l : List α}, l.length = 3 → ∃ a b c, l = [a, b, c]
  | [a, b, c], _ => ⟨a, b, c, rfl⟩
theorem numsT_bound {k : Nat} : ∀ {ws : List Str} {l : List Int}, numsT k ws = some l → ∀ x ∈ l, -(10 ^ k : Nat) < x ∧ x < (10 ^ k : Nat)
  | [], l, h => by simp [numsT] at h; subst h; simp
  | w :: r, l, h => by
    rw [numsT] at h
    cases h1 : numT w k with
    | none => rw [h1] at h; simp at h
    | some n =>
      cases h2 : numsT k r with
      | none => rw [h1, h2] at h; simp at h
      | some t =>
        rw [h1, h2] at h
        simp only [Option.some.injEq] at h; subst h
        intro x hx
        rcases List.mem_cons.1 hx with rfl | hx
        · exact numT_bound h1
        · exact numsT_bound h2 x hx
theorem Parse_eq (s : Str) (hs : s.length ≤ 1000000) : campaign_ParseVersion s = some (match verOf s with | some v => (v, 0) | none => (⟨0, 0, 0⟩, 9)) := by
  unfold campaign_ParseVersion
  have hl := splitC_length 46 s
  rw [splitO_eq (by omega)]
  simp only [Option.bind_some]
  rw [show (4 : Int) = ((4 : Nat) : Int) from rfl, Numbers_eq _ 4 (by omega) (by omega)]
  simp only [Option.bind_some]
  unfold campaign_ParseVersion_j1 verOf
  rw [show (4 : Int) = ((4 : Nat) : Int) from rfl]
  generalize hN : numsT ((4 : Nat) : Int) (splitC 46 s) = o
  cases o with
  | none => rfl
  | some l =>
    by_cases h3 : l.length = 3
    · obtain ⟨x, y, z, rfl⟩ := len3 h3
      have bd := numsT_bound hN
      have bx := bd x (by simp)
      have by_ := bd y (by simp)
      have bz := bd z (by simp)
      simp only [Bool.not_true, Bool.false_or]
      rw [if_neg (by simp)]
      have e0 : idx [x, y, z] 0 = some x := rfl
      have e1 : idx [x, y, z] 1 = some y := rfl
      have e2 : idx [x, y, z] 2 = some z := rfl
      rw [e0, e1, e2]
      simp only [Option.bind_some, Version_chk]
      by_cases hp : 0 ≤ x ∧ 0 ≤ y ∧ 0 ≤ z
      · rw [if_pos hp, if_neg]
        unfold verB; simp; omega
      · rw [if_neg hp, if_pos]
        unfold verB; simp; omega
    · simp only
      rw [if_pos (by simp; omega)]
      split
      · rename_i v e
        split at e
        · rename_i e2; obtain rfl := Option.some.inj e2; simp at h3
        · cases e
      · rfl
theorem versioned_eq : L_versioned = some true := by
  unfold L_versioned
  rw [Parse_eq _ (by simp)]
  have h : verOf [49, 46, 50, 46, 51] = some ⟨1, 2, 3⟩ := by
    have e : splitC 46 [49, 46, 50, 46, 51] = [[49], [50], [51]] := by decide
    have i1 : Lib.itoa 1 = [49] := by unfold Lib.itoa; rw [if_neg (by omega), Lib.decDigits, dif_pos (by decide)]; rfl
    have i2 : Lib.itoa 2 = [50] := by unfold Lib.itoa; rw [if_neg (by omega), Lib.decDigits, dif_pos (by decide)]; rfl
    have i3 : Lib.itoa 3 = [51] := by unfold Lib.itoa; rw [if_neg (by omega), Lib.decDigits, dif_pos (by decide)]; rfl
    have n1 := numT_itoa (n := 1) (k := 4) (by rw [Lib.decDigits, dif_pos (by decide)]; simp)
    have n2 := numT_itoa (n := 2) (k := 4) (by rw [Lib.decDigits, dif_pos (by decide)]; simp)
    have n3 := numT_itoa (n := 3) (k := 4) (by rw [Lib.decDigits, dif_pos (by decide)]; simp)
    rw [i1] at n1; rw [i2] at n2; rw [i3] at n3
    unfold verOf
    rw [e]
    simp [numsT, n1, n2, n3]
  rw [h]
  simp [L_versioned_j1]
end Go.Beacon

/- Marks: their order, checks, Merge. No program in sight. -/
set_option linter.unusedVariables false
set_option linter.unusedSimpArgs false
namespace Go.Beacon
open Go Go.Eng

/-! the order -/
def mO (a b : MarkS) : Int := if cmpI a.At b.At ≠ 0 then cmpI a.At b.At else Lib.compareBytes a.Device b.Device
theorem mO_3 : Cmp3 mO := (cmpI_3.on MarkS.At).lex (cmpB_3.on MarkS.Device)
theorem byMoment_eq (a b : MarkS) : campaign_byMoment a b = some (mO a b) := by
  unfold campaign_byMoment
  rw [CompareI_eq]
  have h : cmp_Or_int [cmpI a.At b.At, Lib.compareBytes a.Device b.Device] = some (orL [cmpI a.At b.At, Lib.compareBytes a.Device b.Device]) := gOr_eq _ (by simp)
  rw [h, orL2]; rfl
def MB (x : MarkS) : Prop := -4000000000000000000 ≤ x.At ∧ x.At ≤ 4000000000000000000
theorem MarkOrder_eq {a b : MarkS} (ha : MB a) (hb : MB b) : Q_MarkOrder a b = mO a b := by
  unfold MB at ha hb
  unfold Q_MarkOrder mO
  rw [w64_in (by omega) (by omega)]
  have e : Q_sign (a.At - b.At) = cmpI a.At b.At := by
    unfold Q_sign cmpI
    repeat' split
    all_goals omega
  rw [e]
  by_cases h1 : a.At = b.At
  · have : cmpI a.At b.At = 0 := by unfold cmpI; rw [if_neg (by omega), if_neg (by omega)]
    rw [if_neg (fun z : a.At ≠ b.At => z h1), if_neg (fun z => z this)]
  · rw [if_pos h1, if_pos (fun h => h1 (cmpI_zero h))]
theorem morder_B {xs : List MarkS} (hB : ∀ x ∈ xs, MB x) : ∀ x ∈ xs, ∀ y ∈ xs, Q_MarkOrder x y = mO x y := fun x hx y hy => MarkOrder_eq (hB x hx) (hB y hy)
/-! the checks -/
def momB (n : Int) : Bool := decide (0 ≤ n) && decide (n ≤ 345686399999)
def markBad (s : MarkS) : Int := if momB s.At = false then 1 else if keyB s.Device = false then 5 else if s.Kind < 1 ∨ 5 < s.Kind then 4 else if verB s.Version = false then 1 else 0
def markStep (prev : Option MarkS) (s : MarkS) : Int := if markBad s ≠ 0 then markBad s else match prev with
  | none => 0
  | some p => if mO s p ≤ 0 then 7 else 0
def chkM (xs : List MarkS) : Int := if (3000 : Int) < xs.length then 2 else scanC markStep none xs
theorem CheckMarks_eq (xs : List MarkS) : campaign_CheckMarks xs = some (chkM xs) := by
  unfold campaign_CheckMarks chkM
  split
  · rfl
  · rename_i hl
    unfold campaign_CheckMarks_l1
    refine scan_all markStep xs _ (fun {i s} h0 h1 hs => ?_) (by show campaign_CheckMarks_b1 xs _ = _; rw [campaign_CheckMarks_b1, if_neg (by omega)]; rfl)
    show campaign_CheckMarks_b1 xs i = _
    rw [campaign_CheckMarks_b1, if_pos h1, hs]
    simp only [Option.bind_some, Key_eq]
    rw [Moment_eq, show (decide (0 ≤ s.At) && decide (s.At ≤ 345686399999)) = momB s.At from rfl, Version_chk, Out_eq]
    unfold markStep markBad
    cases hm : momB s.At
    · simp
    · simp only [Bool.not_true, Bool.false_eq_true, if_false, Bool.true_eq_false]
      cases hk : keyB s.Device
      · simp
      · simp only [Bool.not_true, Bool.false_eq_true, if_false, Bool.true_eq_false]
        rw [show (decide (s.Kind < 1) || decide (5 < s.Kind)) = decide (s.Kind < 1 ∨ 5 < s.Kind) by rw [Bool.eq_iff_iff]; simp]
        by_cases h3 : s.Kind < 1 ∨ 5 < s.Kind
        · rw [decide_eq_true h3, if_pos rfl, if_pos h3]; simp
        · rw [decide_eq_false h3, if_neg Bool.false_ne_true, if_neg h3]
          cases hv : verB s.Version
          · simp
          · simp only [Bool.not_true, Bool.false_eq_true, if_false, Bool.true_eq_false, ne_eq, not_true_eq_false]
            unfold campaign_CheckMarks_j1
            rw [w64_in (x := i + 1) (by omega) (by omega)]
            by_cases hi : 0 < i
            · obtain ⟨p, hp, _, _⟩ := idx_lt xs (i := i - 1) (by omega) (by omega)
              have hpa : prevOf xs i = some p := by unfold prevOf; rw [if_neg (by omega), hp]
              rw [hpa, if_pos hi, w64_in (by omega) (by omega), hp]
              simp only [Option.bind_some, byMoment_eq]
              by_cases hb : mO s p ≤ 0
              · simp [hb]
              · simp [hb]
            · have hpa : prevOf xs i = none := by unfold prevOf; rw [if_pos (by omega)]
              rw [hpa, if_neg hi]; simp
theorem MarksFault_eq (xs : List MarkS) (hB : ∀ x ∈ xs, MB x) : Q_MarksFault xs = some (chkM xs) := by
  unfold Q_MarksFault chkM
  split
  · rfl
  · rename_i hl
    unfold Q_MarksFault_l1
    refine scan_all markStep xs _ (fun {i s} h0 h1 hs => ?_) (by show Q_MarksFault_b1 xs _ = _; rw [Q_MarksFault_b1, if_neg (by omega)]; rfl)
    show Q_MarksFault_b1 xs i = _
    rw [Q_MarksFault_b1, if_pos h1, hs]
    simp only [Option.bind_some, QKey_eq]
    rw [QMoment_eq, show (decide (0 ≤ s.At) && decide (s.At ≤ 345686399999)) = momB s.At from rfl, Qver_eq, Qin_eq]
    unfold markStep markBad
    cases hm : momB s.At
    · simp
    · simp only [Bool.not_true, Bool.false_eq_true, if_false, Bool.true_eq_false]
      cases hk : keyB s.Device
      · simp
      · simp only [Bool.not_true, Bool.false_eq_true, if_false, Bool.true_eq_false]
        rw [show (!(decide (1 ≤ s.Kind) && decide (s.Kind ≤ 5))) = decide (s.Kind < 1 ∨ 5 < s.Kind) by rw [Bool.eq_iff_iff]; simp [Int.not_le]]
        by_cases h3 : s.Kind < 1 ∨ 5 < s.Kind
        · rw [decide_eq_true h3, if_pos rfl, if_pos h3]; simp
        · rw [decide_eq_false h3, if_neg Bool.false_ne_true, if_neg h3]
          cases hv : verB s.Version
          · simp
          · simp only [Bool.not_true, Bool.false_eq_true, if_false, Bool.true_eq_false, if_true, ne_eq, not_true_eq_false]
            unfold Q_MarksFault_j1
            rw [w64_in (x := i + 1) (by omega) (by omega)]
            by_cases hi : 0 < i
            · obtain ⟨p, hp, hpm, _⟩ := idx_lt xs (i := i - 1) (by omega) (by omega)
              have hpa : prevOf xs i = some p := by unfold prevOf; rw [if_neg (by omega), hp]
              rw [hpa, if_pos hi, w64_in (by omega) (by omega), hp]
              simp only [Option.bind_some]
              rw [morder_B hB p hpm s (idx_mem hs), mO_3.neg p s]
              by_cases hb : mO s p ≤ 0
              · rw [decide_eq_true (by omega)]; simp [hb]
              · rw [decide_eq_false (by omega)]; simp [hb]
            · have hpa : prevOf xs i = none := by unfold prevOf; rw [if_pos (by omega)]
              rw [hpa, if_neg hi]; simp
/-! sorting and compacting -/
def ZM : MarkS := ⟨0, [], 0, ⟨0, 0, 0⟩⟩
theorem mstable_len (f : MarkS → MarkS → Option Int) (xs : List MarkS) (hl : (xs.length : Int) ≤ 20) (hf : ∀ x ∈ xs, ∀ y ∈ xs, f x y = some (mO x y)) : ∃ Z, lenOk xs.length (fun r : List MarkS => r.length) (slices_SortStableFunc_Mark_Mark xs f) = some Z ∧ Z.Perm xs ∧ Srt mO Z := by
  obtain ⟨Z, h1, h2, h3⟩ := gIns_eq f mO xs (by omega) hf (mO_3.ord xs)
  have h1' : slices_insertionSortCmpFunc_Mark xs 0 xs.length f = some Z := h1
  have hlen := h2.length_eq
  refine ⟨Z, ?_, h2, h3⟩
  have hs : slices_stableCmpFunc_Mark xs xs.length f = some Z := by
    unfold slices_stableCmpFunc_Mark slices_stableCmpFunc_Mark_l1
    by_cases h20 : (xs.length : Int) = 20
    · rw [iter_eq, slices_stableCmpFunc_Mark_b1, if_pos (by simp only; omega)]
      simp only
      rw [h20] at h1' ⊢
      rw [len_ok h1' hlen]
      simp only [Option.bind_some, after_inl]
      rw [iter_eq, slices_stableCmpFunc_Mark_b1, show w64 (20 + 20) = 40 from rfl, if_neg (by simp), map_inr_after]
      unfold slices_stableCmpFunc_Mark_k3
      have h2' : slices_insertionSortCmpFunc_Mark Z 20 20 f = some Z := by
        unfold slices_insertionSortCmpFunc_Mark slices_insertionSortCmpFunc_Mark_l1
        rw [iter_eq, slices_insertionSortCmpFunc_Mark_b1, show w64 (20 + 1) = 21 from rfl, if_neg (by simp), map_inr_after]
      simp only
      rw [len_ok h2' rfl]
      simp only [Option.bind_some]
      unfold slices_stableCmpFunc_Mark_l2
      rw [iter_eq, slices_stableCmpFunc_Mark_b2, if_neg (by simp), map_inr_after]
    · rw [iter_eq, slices_stableCmpFunc_Mark_b1, if_neg (by simp only; omega), map_inr_after]
      unfold slices_stableCmpFunc_Mark_k3
      simp only
      rw [len_ok h1' hlen]
      simp only [Option.bind_some]
      unfold slices_stableCmpFunc_Mark_l2
      rw [iter_eq, slices_stableCmpFunc_Mark_b2, if_neg (by simp only; omega), map_inr_after]
  refine len_ok ?_ hlen
  unfold slices_SortStableFunc_Mark_Mark
  rw [len_ok hs hlen]; rfl
theorem mcompactF_eq (f : MarkS → MarkS → Option Bool) (e : MarkS → MarkS → Bool) (xs : List MarkS) (hl : (xs.length : Int) ≤ 100000) (hf : ∀ x ∈ xs, ∀ y ∈ xs, f x y = some (e x y)) : slices_CompactFunc_Mark_Mark xs f = some (dd e xs) := gCptF_eq ZM f e xs hl hf
/-! Merge -/
end Go.Beacon

/- Campaigns: checks of campaigns and fleets, waves. No program in sight. -/
set_option linter.unusedVariables false
set_option linter.unusedSimpArgs false
namespace Go.Beacon
open Go Go.Eng

/-! fleets -/
def kbad (x : DeviceS) : Prop := keyB x.Key = false ∨ keyB x.Model = false ∨ keyB x.Tenant = false
instance (x : DeviceS) : Decidable (kbad x) := by unfold kbad; infer_instance
def devBad (p : Option DeviceS) (x : DeviceS) : Bool := match p with
  | none => false
  | some q => Op.bytesLess x.Key q.Key || x.Key == q.Key
def devStep (p : Option DeviceS) (x : DeviceS) : Int := if kbad x then 5 else if devBad p x = true then 7 else if verB x.Firmware = false then 1 else if (20 : Int) < x.Tags.length then 2 else 0
def chkD (xs : List DeviceS) : Int := if (500 : Int) < xs.length then 2 else scanC devStep none xs
theorem three_keys {α : Type} (x : DeviceS) (f : Bool → α) : (if (!keyB x.Key) = true then f true else if (!keyB x.Model) = true then f true else f (!keyB x.Tenant)) = f (decide (kbad x)) := by
  have h : ∀ a b c : Bool, (if (!a) = true then f true else if (!b) = true then f true else f (!c)) = f (decide (a = false ∨ b = false ∨ c = false)) := by
    intro a b c
    cases a <;> cases b <;> cases c <;> rfl
  rw [show decide (kbad x) = decide (keyB x.Key = false ∨ keyB x.Model = false ∨ keyB x.Tenant = false) from decide_eq_decide.2 Iff.rfl]
  exact h _ _ _
theorem CheckFleet_eq (xs : List DeviceS) : campaign_CheckFleet xs = some (chkD xs) := by
  unfold campaign_CheckFleet chkD
  split
  · rfl
  · rename_i hl
    unfold campaign_CheckFleet_l1
    refine scan_all devStep xs _ (fun {i s} h0 h1 hs => ?_) (by show campaign_CheckFleet_b1 xs _ = _; rw [campaign_CheckFleet_b1, if_neg (by omega)]; rfl)
    show campaign_CheckFleet_b1 xs i = _
    rw [campaign_CheckFleet_b1, if_pos h1, hs]
    simp only [Option.bind_some, Key_eq]
    rw [three_keys s (campaign_CheckFleet_j1 xs i s)]
    unfold campaign_CheckFleet_j1 devStep
    by_cases hb : kbad s
    · rw [decide_eq_true hb, if_pos rfl, if_pos hb]; simp
    · rw [decide_eq_false hb, if_neg Bool.false_ne_true, if_neg hb]
      have hj : (if 0 < i then (idx xs (w64 (i - 1))).bind fun v10 => campaign_CheckFleet_j2 i s (Op.bytesLess s.Key v10.Key || s.Key == v10.Key) else campaign_CheckFleet_j2 i s false) = campaign_CheckFleet_j2 i s (devBad (prevOf xs i) s) := by
        by_cases hi : 0 < i
        · obtain ⟨p, hp, _, _⟩ := idx_lt xs (i := i - 1) (by omega) (by omega)
          have hpa : prevOf xs i = some p := by unfold prevOf; rw [if_neg (by omega), hp]
          rw [hpa, if_pos hi, w64_in (by omega) (by omega), hp]; rfl
        · have hpa : prevOf xs i = none := by unfold prevOf; rw [if_pos (by omega)]
          rw [hpa, if_neg hi]; rfl
      rw [hj]
      unfold campaign_CheckFleet_j2
      rw [Version_chk, w64_in (x := i + 1) (by omega) (by omega)]
      cases devBad (prevOf xs i) s
      · simp only [Bool.false_eq_true, if_false]
        cases verB s.Firmware
        · simp
        · simp only [Bool.not_true, Bool.false_eq_true, if_false, Bool.true_eq_false]
          by_cases ht : (20 : Int) < s.Tags.length
          · rw [if_pos ht, if_pos ht]; simp
          · rw [if_neg ht, if_neg ht]; simp
      · simp
def lastK (p : Option DeviceS) : Str := match p with
  | none => []
  | some n => n.Key
theorem keyB_neC {s : Str} (h : keyB s = true) : s ≠ [] := by
  rintro rfl; simp [keyB] at h
theorem FleetFault_loop (xs : List DeviceS) (hl : (xs.length : Int) ≤ 500) : ∀ (m i : Nat) (p : Option DeviceS), i + m = xs.length → Q_FleetFault_l1 xs (lastK p) i = some (scanC devStep p (xs.drop i)) := by
  intro m
  induction m with
  | zero =>
    intro i p hi
    unfold Q_FleetFault_l1
    rw [iter_eq, Q_FleetFault_b1, if_neg (by simp only; omega), map_inr_after, List.drop_of_length_le (by omega)]
    rfl
  | succ m ih =>
    intro i p hi
    obtain ⟨x, hx, hxm, hd⟩ := idx_lt xs (i := (i : Int)) (by omega) (by omega)
    rw [show ((i : Int)).toNat = i by omega, show ((i : Int) + 1).toNat = i + 1 by omega] at hd
    have w1 : w64 ((i : Int) + 1) = ((i + 1 : Nat) : Int) := by rw [w64_in] <;> omega
    have ih' := ih (i + 1) (some x) (by omega)
    unfold Q_FleetFault_l1 at ih' ⊢
    rw [iter_eq, Q_FleetFault_b1, if_pos (by simp only; omega)]
    simp only [hx, Option.bind_some, QKey_eq, hd, scanC]
    rw [three_keys x (Q_FleetFault_j1 (lastK p) (i : Int) x)]
    unfold Q_FleetFault_j1 devStep
    by_cases hb : kbad x
    · rw [decide_eq_true hb, if_pos rfl, if_pos hb, if_neg (by omega)]; rfl
    · rw [decide_eq_false hb, if_neg Bool.false_ne_true, if_neg hb]
      have hk : keyB x.Key = true := by
        unfold kbad at hb
        cases h : keyB x.Key with
        | true => rfl
        | false => exact absurd (.inl h) hb
      have hd2 : (Op.bytesLess x.Key (lastK p) || x.Key == lastK p) = devBad p x := by
        cases p with
        | some p => rfl
        | none =>
          have hne := keyB_neC hk
          show (Op.bytesLess x.Key [] || x.Key == []) = false
          cases hid : x.Key with
          | nil => exact absurd hid hne
          | cons a b => rfl
      rw [hd2, Qver_eq, w1]
      cases devBad p x
      · simp only [Bool.false_eq_true, if_false]
        cases verB x.Firmware
        · simp [after]
        · simp only [if_true, ne_eq, not_true_eq_false, if_false, Bool.true_eq_false]
          by_cases ht : (20 : Int) < x.Tags.length
          · rw [if_pos ht, if_pos ht, if_neg (by omega)]; rfl
          · rw [if_neg ht, if_neg ht, if_pos rfl]
            simp only [Option.bind_some, after_inl]
            exact ih'
      · simp [after]
theorem FleetFault_eq (xs : List DeviceS) : Q_FleetFault xs = some (chkD xs) := by
  unfold Q_FleetFault chkD
  split
  · rfl
  · rename_i hl
    have := FleetFault_loop xs (by omega) xs.length 0 none (by omega)
    rw [List.drop_zero] at this
    exact this
/-! campaigns -/
theorem notinC (n lo hi : Int) : (!(Q_in n lo hi)) = base_Out n lo hi := by
  rw [Qin_eq, Out_eq, Bool.eq_iff_iff]; simp [Int.not_le]
theorem Campaign_chk (c : Campaign) : Q_CampaignFault c = campaign_CheckCampaign c := by
  unfold campaign_CheckCampaign Q_CampaignFault
  rw [Key_eq, QKey_eq]
  simp only [Option.bind_some]
  rw [Version_chk, Qver_eq, Moment_eq, QMoment_eq]
  have hl : Q_CampaignFault_l1 c 0 0 = campaign_CheckCampaign_l1 c 0 0 := by
    unfold campaign_CheckCampaign_l1 Q_CampaignFault_l1
    refine iter_same (fun s => ?_) _
    unfold campaign_CheckCampaign_b1 Q_CampaignFault_b1 campaign_CheckCampaign_j2 Q_CampaignFault_j1 campaign_CheckCampaign_k4 Q_CampaignFault_k3 campaign_CheckCampaign_j3 Q_CampaignFault_j2
    simp only [notinC]
  unfold campaign_CheckCampaign_j1
  rw [hl]
  cases keyB c.Key
  · rfl
  · simp only [Bool.not_true, Bool.false_eq_true, if_false]
    cases verB c.Target
    · simp
    · simp only [if_true, ne_eq, not_true_eq_false, if_false, Bool.not_true, Bool.false_or]
def pSum (l : List Wave) : Int := (l.map Wave.Part).sum
theorem pSum_B : ∀ l : List Wave, (∀ w ∈ l, 1 ≤ w.Part ∧ w.Part ≤ 1000) → 0 ≤ pSum l ∧ pSum l ≤ 1000 * l.length
  | [], _ => by simp [pSum]
  | w :: l, h => by
    have h1 := pSum_B l (fun x hx => h x (List.mem_cons_of_mem _ hx))
    have h2 := h w (by simp)
    unfold pSum at h1 ⊢
    rw [List.map_cons, List.sum_cons, List.length_cons]
    omega
theorem pSum_snoc {l : List Wave} {n : Nat} (h : n < l.length) : pSum (l.take (n + 1)) = pSum (l.take n) + l[n].Part := by
  rw [List.take_succ_eq_append_getElem h]; unfold pSum; rw [List.map_append, List.sum_append, List.map_cons, List.map_nil, List.sum_cons, List.sum_nil, Int.add_zero]
structure CRight (c : Campaign) : Prop where
  key : keyB c.Key = true
  len : c.Waves.length ≤ 20
  part : ∀ w ∈ c.Waves, 1 ≤ w.Part ∧ w.Part ≤ 1000
  sum : pSum c.Waves = 1000
  mom : 0 ≤ c.At ∧ c.At ≤ 345686399999
  wait : ∀ w ∈ c.Waves, 0 ≤ w.Wait ∧ w.Wait ≤ 2592000000
theorem Campaign_ends (c : Campaign) : Ok (campaign_CheckCampaign c) (fun r => r = 0 → CRight c) := by
  unfold campaign_CheckCampaign
  rw [Key_eq]
  simp only [Option.bind_some]
  cases hk : keyB c.Key
  · exact Ok.ret (fun h => absurd h (by omega))
  · rw [if_neg (by simp)]
    unfold campaign_CheckCampaign_j1
    split
    · exact Ok.ret (fun h => absurd h (by omega))
    · rename_i hvm
      have hmom : 0 ≤ c.At ∧ c.At ≤ 345686399999 := by
        rw [Moment_eq] at hvm
        simp only [Bool.or_eq_true, not_or, Bool.not_eq_true', Bool.not_eq_false, Bool.and_eq_true, decide_eq_true_eq] at hvm
        exact hvm.2
      split
      · exact Ok.ret (fun h => absurd h (by omega))
      · split
        · exact Ok.ret (fun h => absurd h (by omega))
        · rename_i hlen
          unfold campaign_CheckCampaign_l1
          refine Ok.iter (fun x : Int × Int => (c.Waves.length - x.2).toNat) (fun x : Int × Int => 0 ≤ x.2 ∧ x.2 ≤ c.Waves.length ∧ x.1 = pSum (c.Waves.take x.2.toNat) ∧ ∀ w ∈ c.Waves.take x.2.toNat, (1 ≤ w.Part ∧ w.Part ≤ 1000) ∧ (0 ≤ w.Wait ∧ w.Wait ≤ 2592000000)) ?_ _ ⟨by simp, by simp, by simp [pSum], by simp⟩
          rintro ⟨S, n⟩ ⟨g0, g1, g2, g3⟩
          simp only at g0 g1 g2 g3 ⊢
          have hS := pSum_B _ (fun w hw => (g3 w hw).1)
          rw [← g2] at hS
          have htl : (c.Waves.take n.toNat).length ≤ 20 := by simp; omega
          unfold campaign_CheckCampaign_b1
          by_cases hn : n < c.Waves.length
          · rw [if_pos hn]
            obtain ⟨w, hw, hm, _⟩ := idx_lt c.Waves g0 hn
            obtain ⟨hn', hg'⟩ := List.getElem?_eq_some_iff.1 (idx_some hw).2.2
            rw [hw]
            simp only [Option.bind_some]
            unfold campaign_CheckCampaign_j2
            split
            · exact Ok.inr (Ok.ret (fun h => absurd h (by omega)))
            · rename_i ho
              have hp : (1 ≤ w.Part ∧ w.Part ≤ 1000) ∧ (0 ≤ w.Wait ∧ w.Wait ≤ 2592000000) := by
                simp only [Out_eq] at ho
                simp at ho
                omega
              refine Ok.ret ?_
              rw [w64_in (x := S + w.Part) (by omega) (by omega), w64_in (x := n + 1) (by omega) (by omega)]
              refine ⟨⟨by simp only; omega, by simp only; omega, ?_, ?_⟩, by simp only; omega⟩
              · simp only
                rw [show (n + 1).toNat = n.toNat + 1 by omega, pSum_snoc hn', hg', g2]
              · simp only
                intro y hy
                rw [show (n + 1).toNat = n.toNat + 1 by omega, List.take_succ_eq_append_getElem hn', hg'] at hy
                rcases List.mem_append.1 hy with e | e
                · exact g3 y e
                · rw [List.mem_singleton] at e; subst e; exact hp
          · rw [if_neg hn]
            have hta : c.Waves.take n.toNat = c.Waves := List.take_of_length_le (by omega)
            rw [hta] at g2 g3
            refine Ok.inr ?_
            unfold campaign_CheckCampaign_k4
            split
            · exact Ok.ret (fun h => absurd h (by omega))
            · rename_i h1000
              unfold campaign_CheckCampaign_j3
              split
              · exact Ok.ret (fun h => absurd h (by omega))
              · exact Ok.ret (fun _ => ⟨hk, by omega, fun w hw => (g3 w hw).1, by omega, hmom, fun w hw => (g3 w hw).2⟩)
/-! waves -/
def hstep (h : Int) (c : UInt8) : Int := IntKind.u64.wrap (xorI .u64 h (IntKind.u64.wrap (c.toNat : Int)) * 1099511628211)
def hashL (h : Int) (s : Str) : Int := s.foldl hstep h
def h0 : Int := 14695981039346656037
theorem wrap_rng (n : Int) : 0 ≤ IntKind.u64.wrap n ∧ IntKind.u64.wrap n < 18446744073709551616 := by
  rw [IntKind.wrap_u64]; omega
theorem hashL_rng : ∀ (s : Str) (h : Int), 0 ≤ h ∧ h < 18446744073709551616 → 0 ≤ hashL h s ∧ hashL h s < 18446744073709551616
  | [], h, hh => hh
  | c :: s, h, hh => hashL_rng s (hstep h c) (wrap_rng _)
theorem xor_zero {h : Int} (hh : 0 ≤ h ∧ h < 18446744073709551616) : xorI .u64 h 0 = h := by
  unfold xorI
  have e : BitVec.ofInt IntKind.u64.bits 0 = 0#(IntKind.u64.bits) := by decide
  rw [e, BitVec.xor_zero, IntKind.wrap_u64, BitVec.toNat_ofInt]
  show ((h % ((2 ^ 64 : Nat) : Int)).toNat : Int) % 18446744073709551616 = h
  omega
theorem hstep_zero {h : Int} (hh : 0 ≤ h ∧ h < 18446744073709551616) : hstep h 0 = IntKind.u64.wrap (h * 1099511628211) := by
  unfold hstep
  rw [show IntKind.u64.wrap (((0 : UInt8).toNat : Nat) : Int) = 0 by decide, xor_zero hh]
theorem Hash_l2 (n4 : Int) (s : Str) (hs : s.length ≤ 1000) : ∀ (m i : Nat) (h : Int), i + m = s.length → base_Hash_l2 n4 s h i = some (.inl (hashL h (s.drop i), w64 (n4 + 1))) := by
  intro m
  induction m with
  | zero =>
    intro i h hi
    unfold base_Hash_l2
    rw [iter_eq, base_Hash_b2, if_neg (by simp only; omega), map_inr_after, List.drop_of_length_le (by omega)]
    rfl
  | succ m ih =>
    intro i h hi
    obtain ⟨c, hc, _, hd⟩ := idx_lt s (i := (i : Int)) (by omega) (by omega)
    rw [show ((i : Int)).toNat = i by omega, show ((i : Int) + 1).toNat = i + 1 by omega] at hd
    have w1 : w64 ((i : Int) + 1) = ((i + 1 : Nat) : Int) := by rw [w64_in] <;> omega
    have ih' := ih (i + 1) (hstep h c) (by omega)
    unfold base_Hash_l2 at ih' ⊢
    rw [iter_eq, base_Hash_b2, if_pos (by simp only; omega)]
    simp only [hc, Option.bind_some, w1, after_inl, hd]
    exact ih'
theorem Hash_two (a b : Str) (ha : a.length ≤ 1000) (hb : b.length ≤ 1000) : base_Hash [a, b] = some (hashL (IntKind.u64.wrap (hashL h0 a * 1099511628211)) b) := by
  unfold base_Hash base_Hash_l1
  have e0 := Hash_l2 0 a ha a.length 0 14695981039346656037 (by omega)
  have e1 := Hash_l2 1 b hb b.length 0 (IntKind.u64.wrap (hashL h0 a * 1099511628211)) (by omega)
  rw [iter_eq, base_Hash_b1, if_pos (by simp), show idx [a, b] 0 = some a from rfl]
  simp only [Option.bind_some]
  rw [if_neg (by omega)]
  unfold base_Hash_j1
  rw [show ((0 : Nat) : Int) = 0 from rfl, List.drop_zero] at e0
  rw [e0]
  simp only [Option.bind_some, after_inl]
  rw [show w64 (0 + 1) = 1 by decide, iter_eq, base_Hash_b1, if_pos (by simp), show idx [a, b] 1 = some b from rfl]
  simp only [Option.bind_some]
  rw [if_pos (by omega)]
  unfold base_Hash_j1
  rw [show ((0 : Nat) : Int) = 0 from rfl, List.drop_zero] at e1
  rw [show hashL 14695981039346656037 a = hashL h0 a from rfl, e1]
  simp only [Option.bind_some, after_inl]
  rw [show w64 (1 + 1) = 2 by decide, iter_eq, base_Hash_b1, if_neg (by simp), map_inr_after]
def lotV (c : Campaign) (d : Str) : Int := w64 ((xorI .u64 (hashL (IntKind.u64.wrap (hashL h0 c.Key * 1099511628211)) d) (shrI .u64 (hashL (IntKind.u64.wrap (hashL h0 c.Key * 1099511628211)) d) 32)).tmod 1000)
theorem lot_eq (c : Campaign) (d : Str) (h1 : c.Key.length ≤ 1000) (h2 : d.length ≤ 1000) : campaign_lot c d = some (lotV c d) := by
  unfold campaign_lot
  rw [Hash_two _ _ h1 h2]; rfl
theorem Qlot_l1 (s : Str) (hs : s.length ≤ 3000) : ∀ (m i : Nat) (h : Int), i + m = s.length → Q_lot_l1 s h i = some (w64 ((xorI .u64 (hashL h (s.drop i)) (shrI .u64 (hashL h (s.drop i)) 32)).tmod 1000)) := by
  have hbl : (bytesI s).length = s.length := by unfold bytesI; simp
  intro m
  induction m with
  | zero =>
    intro i h hi
    unfold Q_lot_l1
    rw [iter_eq, Q_lot_b1, if_neg (by simp only; omega), map_inr_after, List.drop_of_length_le (by omega)]
    rfl
  | succ m ih =>
    intro i h hi
    obtain ⟨c, hc, _, hd⟩ := idx_lt s (i := (i : Int)) (by omega) (by omega)
    have hcb : idx (bytesI s) (i : Int) = some (c.toNat : Int) := by
      unfold idx at hc ⊢
      rw [if_pos (by omega)] at hc ⊢
      unfold bytesI
      rw [List.getElem?_map, hc]; rfl
    rw [show ((i : Int)).toNat = i by omega, show ((i : Int) + 1).toNat = i + 1 by omega] at hd
    have w1 : w64 ((i : Int) + 1) = ((i + 1 : Nat) : Int) := by rw [w64_in] <;> omega
    have ih' := ih (i + 1) (hstep h c) (by omega)
    unfold Q_lot_l1 at ih' ⊢
    rw [iter_eq, Q_lot_b1, if_pos (by simp only; omega)]
    simp only [hcb, Option.bind_some, w1, after_inl, hd]
    exact ih'
theorem Qlot_eq (c : Campaign) (d : Str) (h1 : c.Key.length ≤ 1000) (h2 : d.length ≤ 1000) : Q_lot c d = some (lotV c d) := by
  unfold Q_lot
  rw [cat_le (by simp; omega)]
  simp only [Option.bind_some]
  rw [cat_le (by simp; omega)]
  simp only [Option.bind_some]
  have e := Qlot_l1 (c.Key ++ [0] ++ d) (by simp; omega) (c.Key ++ [0] ++ d).length 0 h0 (by omega)
  have hh : hashL h0 (c.Key ++ [0] ++ d) = hashL (IntKind.u64.wrap (hashL h0 c.Key * 1099511628211)) d := by
    unfold hashL
    rw [List.foldl_append, List.foldl_append, List.foldl_cons, List.foldl_nil]
    have := hashL_rng c.Key h0 (by unfold h0; omega)
    unfold hashL at this
    rw [hstep_zero this]
  rw [show ((0 : Nat) : Int) = 0 from rfl, List.drop_zero, hh] at e
  exact e
theorem lot_rng (c : Campaign) (d : Str) : 0 ≤ lotV c d ∧ lotV c d < 1000 := by
  unfold lotV
  have hx := wrap_rng ((BitVec.ofInt IntKind.u64.bits (hashL (IntKind.u64.wrap (hashL h0 c.Key * 1099511628211)) d) ^^^ BitVec.ofInt IntKind.u64.bits (shrI .u64 (hashL (IntKind.u64.wrap (hashL h0 c.Key * 1099511628211)) d) 32)).toNat : Int)
  change 0 ≤ xorI .u64 _ _ ∧ xorI .u64 _ _ < _ at hx
  have a1 := Int.tmod_nonneg 1000 hx.1
  have a2 := Int.tmod_lt_of_pos (xorI .u64 (hashL (IntKind.u64.wrap (hashL h0 c.Key * 1099511628211)) d) (shrI .u64 (hashL (IntKind.u64.wrap (hashL h0 c.Key * 1099511628211)) d) 32)) (show (0 : Int) < 1000 by omega)
  rw [w64_in (by omega) (by omega)]
  exact ⟨a1, a2⟩
theorem wave_go (c : Campaign) (hc : CRight c) (v : Int) (hv : v < 1000) : ∀ (m k : Nat) (S : Int), k + m = c.Waves.length → 0 ≤ S → S ≤ v → S + pSum (c.Waves.drop k) = 1000 → ∃ j, campaign_waveOf_l1 c v S k = some j ∧ Q_WaveOf_l1 c (v - S) k = some j := by
  have hlen := hc.len
  intro m
  induction m with
  | zero =>
    intro k S hk h1 h2 h3
    rw [List.drop_of_length_le (by omega)] at h3
    simp [pSum] at h3
    omega
  | succ m ih =>
    intro k S hk h1 h2 h3
    obtain ⟨w, hw, hm, hd⟩ := idx_lt c.Waves (i := (k : Int)) (by omega) (by omega)
    rw [show ((k : Int)).toNat = k by omega, show ((k : Int) + 1).toNat = k + 1 by omega] at hd
    have hp := hc.part w hm
    have w1 : w64 ((k : Int) + 1) = ((k + 1 : Nat) : Int) := by rw [w64_in] <;> omega
    have h4 : S + w.Part + pSum (c.Waves.drop (k + 1)) = 1000 := by
      rw [hd] at h3
      unfold pSum at h3 ⊢
      rw [List.map_cons, List.sum_cons] at h3
      omega
    unfold campaign_waveOf_l1 Q_WaveOf_l1
    rw [iter_eq, iter_eq, campaign_waveOf_b1, Q_WaveOf_b1, if_pos (by simp only; omega), if_pos (by simp only; omega), hw]
    simp only [Option.bind_some]
    rw [w64_in (x := S + w.Part) (by omega) (by omega), w64_in (x := v - S - w.Part) (by omega) (by omega), w1]
    by_cases hq : v < S + w.Part
    · rw [if_pos hq, if_pos (by omega)]
      exact ⟨k, rfl, rfl⟩
    · rw [if_neg hq, if_neg (by omega)]
      simp only [Option.bind_some, after_inl]
      have := ih (k + 1) (S + w.Part) (by omega) (by omega) (by omega) h4
      rw [show v - S - w.Part = v - (S + w.Part) by omega]
      exact this
theorem keyB_lenC {s : Str} (h : keyB s = true) : s.length ≤ 40 := by
  cases s with
  | nil => simp
  | cons c r => rw [keyB_cons] at h; simp at h; simp; omega
end Go.Beacon

/- CampaignsCheck: the generators and the law. No program in sight. -/
set_option linter.unusedVariables false
set_option linter.unusedSimpArgs false
namespace Go.Beacon
open Go Go.Eng

def B40 (n : Int) : Prop := -1099511627777 ≤ n ∧ n ≤ 1099511627777
theorem RightCampaign_k {s : Stm} {K : Int} (hs : SOk s K) (hK : 40 ≤ K) : Gen (Stream_RightCampaign s) (K - 40) (fun c => B40 c.At ∧ c.Waves.length ≤ 10) := by
  refine Gen.of ?_
  unfold Stream_RightCampaign
  refine Ok.gen (Some_k hs (by omega) (by simp) (by simp)) (fun q s1 hq q1 => ?_)
  refine Ok.gen (Pick_k q1 (by omega) (by simp) (by simp)) (fun a s2 ha q2 => ?_)
  refine Ok.gen (Pick_k q2 (by omega) (by simp) (by simp)) (fun b s3 hb q3 => ?_)
  refine Ok.gen (Pick_k q3 (by omega) (by simp) (by simp)) (fun d s4 hd q4 => ?_)
  refine Ok.gen (Next_k q4 (by omega) (by omega) (by omega)) (fun e s5 he q5 => ?_)
  refine Ok.idx he.1 (by simpa using he.2) (fun ps hps hpm => ?_)
  have hpl : ps.length ≤ 3 := by
    simp only [List.mem_cons, List.not_mem_nil, or_false] at hpm
    rcases hpm with h | h | h | h <;> subst h <;> simp
  have hbB : B40 b := by simp at hb; unfold B40; omega
  dsimp only
  unfold Stream_RightCampaign_l1
  refine Ok.iter (fun x : List Int × Int × List Wave × Int => (ps.length - x.2.2.2).toNat) (fun x : List Int × Int × List Wave × Int => 0 ≤ x.2.2.2 ∧ x.2.2.2 ≤ ps.length ∧ SOk ⟨x.1, x.2.1⟩ (K - 37 + 3 * (ps.length - x.2.2.2)) ∧ (x.2.2.1.length : Int) = x.2.2.2) ?_ _ ⟨by simp, by simp, q5.less (by simp only; omega), by simp⟩
  rintro ⟨L, a2, l, n⟩ ⟨g0, g1, g2, g3⟩
  simp only at g0 g1 g2 g3 ⊢
  unfold Stream_RightCampaign_b1
  by_cases hn : n < ps.length
  · rw [if_pos hn]
    refine Ok.idx g0 hn (fun p hp _ => ?_)
    refine Ok.gen (Pick_k g2 (by omega) (by simp) (by simp)) (fun u s6 _ q6 => ?_)
    refine Ok.gen (Pick_k q6 (by omega) (by simp) (by simp)) (fun v s7 _ q7 => ?_)
    refine Ok.gen (Pick_k q7 (by omega) (by simp) (by simp)) (fun w s8 _ q8 => ?_)
    refine Ok.app (by simp; omega) ?_
    refine Ok.ret ?_
    rw [w64_in (by omega) (by omega)]
    exact ⟨⟨by simp only; omega, by simp only; omega, q8.less (by simp only; omega), by simp; omega⟩, by simp only; omega⟩
  · rw [if_neg hn]
    refine Ok.inr ?_
    unfold Stream_RightCampaign_k2 Stream_RightCampaign_j1
    refine Ok.gen (Flip_k g2 (by omega) (by omega) (by omega)) (fun c s6 _ q6 => ?_)
    dsimp only
    split
    · refine Ok.gen (Pick_k q6 (by omega) (by simp) (by simp)) (fun u s7 _ q7 => ?_)
      refine Ok.gen (Pick_k q7 (by omega) (by simp) (by simp)) (fun v s8 _ q8 => ?_)
      exact Ok.ret ⟨⟨hbB, by simp only; omega⟩, q8.less (by omega)⟩
    · exact Ok.ret ⟨⟨hbB, by simp only; omega⟩, q6.less (by omega)⟩
theorem Version_k {s : Stm} {K : Int} (hs : SOk s K) (hK : 10 ≤ K) : Gen (Stream_Version s) (K - 10) (fun _ => True) := by
  refine Gen.of ?_
  unfold Stream_Version Stream_Version_j1
  have hr : Gen (Stream_RightVersion s) (K - 3) (fun _ => True) := by
    refine Gen.of ?_
    unfold Stream_RightVersion
    refine Ok.gen (Range_k hs (by omega) (by omega) (by omega) (by omega)) (fun a s1 _ q1 => ?_)
    refine Ok.gen (Pick_k q1 (by omega) (by simp) (by simp)) (fun b s2 _ q2 => ?_)
    refine Ok.gen (Pick_k q2 (by omega) (by simp) (by simp)) (fun d s3 _ q3 => ?_)
    exact Ok.ret ⟨trivial, q3.less (by omega)⟩
  refine Ok.gen hr (fun v s1 _ q1 => ?_)
  refine Ok.gen (Flip_k q1 (by omega) (by omega) (by omega)) (fun c s2 _ q2 => ?_)
  dsimp only
  split
  · refine Ok.gen (Odd_k q2 (by omega) (by omega) (by omega) (by omega)) (fun b s3 _ q3 => ?_)
    refine Ok.gen (Odd_k q3 (by omega) (by omega) (by omega) (by omega)) (fun d s4 _ q4 => ?_)
    exact Ok.ret ⟨trivial, q4.less (by omega)⟩
  · exact Ok.ret ⟨trivial, q2.less (by omega)⟩
theorem Campaign_k {s : Stm} {K : Int} (hs : SOk s K) (hK : 70 ≤ K) : Gen (Stream_Campaign s) (K - 70) (fun c => B40 c.At) := by
  refine Gen.of ?_
  unfold Stream_Campaign Stream_Campaign_j6 Stream_Campaign_j5 Stream_Campaign_j4 Stream_Campaign_j3 Stream_Campaign_j2 Stream_Campaign_j1
  refine Ok.gen (RightCampaign_k hs (by omega)) (fun c s1 hc q1 => ?_)
  have hc1 := hc.1
  refine Ok.gen (Flip_k q1 (by omega) (by omega) (by omega)) (fun b s2 _ q2 => ?_)
  dsimp only
  split
  · refine Ok.gen (Next_k q2 (by omega) (by omega) (by omega)) (fun n s3 _ q3 => ?_)
    dsimp only
    split
    · refine Ok.gen (Some_k q3 (by omega) (by simp) (by simp)) (fun q s4 _ q4 => ?_)
      exact Ok.ret ⟨hc1, q4.less (by omega)⟩
    · split
      · refine Ok.gen (Version_k q3 (by omega)) (fun q s4 _ q4 => ?_)
        exact Ok.ret ⟨hc1, q4.less (by omega)⟩
      · split
        · refine Ok.gen (Odd_k q3 (by omega) (by omega) (by omega) (by omega)) (fun q s4 hq q4 => ?_)
          exact Ok.ret ⟨hq, q4.less (by omega)⟩
        · split
          · refine Ok.gen (Odd_k q3 (by omega) (by omega) (by omega) (by omega)) (fun u s4 _ q4 => ?_)
            refine Ok.gen (Odd_k q4 (by omega) (by omega) (by omega) (by omega)) (fun v s5 _ q5 => ?_)
            refine Ok.gen (Odd_k q5 (by omega) (by omega) (by omega) (by omega)) (fun w s6 _ q6 => ?_)
            refine Ok.gen (Odd_k q6 (by omega) (by omega) (by omega) (by omega)) (fun x s7 _ q7 => ?_)
            dsimp only
            refine Ok.app (by have := hc.2; simp; omega) ?_
            exact Ok.ret ⟨hc1, q7.less (by omega)⟩
          · split
            · refine Ok.gen (Odd_k q3 (by omega) (by omega) (by omega) (by omega)) (fun u s4 _ q4 => ?_)
              refine Ok.gen (Odd_k q4 (by omega) (by omega) (by omega) (by omega)) (fun v s5 _ q5 => ?_)
              exact Ok.ret ⟨hc1, q5.less (by omega)⟩
            · refine Ok.gen (Odd_k q3 (by omega) (by omega) (by omega) (by omega)) (fun u s4 _ q4 => ?_)
              exact Ok.ret ⟨hc1, q4.less (by omega)⟩
  · exact Ok.ret ⟨hc1, q2.less (by omega)⟩
theorem Fleet_k {s : Stm} {K : Int} (hs : SOk s K) (hK : 60 ≤ K) : Gen (Stream_Fleet s 5) (K - 60) (fun l => l.length ≤ 6) := by
  refine Gen.of ?_
  have hr : Gen (Stream_RightFleet s 5) (K - 30) (fun l => l.length ≤ 6) := by
    refine Gen.of ?_
    unfold Stream_RightFleet
    rw [show slc [([100, 49] : Str), ([100, 50] : Str), ([100, 51] : Str), ([100, 52] : Str), ([100, 53] : Str), ([100, 54] : Str)] (0 : Int) 5 = some [([100, 49] : Str), ([100, 50] : Str), ([100, 51] : Str), ([100, 52] : Str), ([100, 53] : Str)] from rfl]
    simp only [Option.bind_some]
    unfold Stream_RightFleet_l1
    refine Ok.iter (fun x : List Int × Int × List DeviceS × Int => (5 - x.2.2.2).toNat) (fun x : List Int × Int × List DeviceS × Int => 0 ≤ x.2.2.2 ∧ x.2.2.2 ≤ 5 ∧ SOk ⟨x.1, x.2.1⟩ (K - 30 + 4 * (5 - x.2.2.2)) ∧ (x.2.2.1.length : Int) ≤ x.2.2.2) ?_ _ ⟨by simp, by simp, hs.less (by simp only; omega), by simp⟩
    rintro ⟨L, a, l, n⟩ ⟨g0, g1, g2, g3⟩
    simp only at g0 g1 g2 g3 ⊢
    unfold Stream_RightFleet_b1
    by_cases hn : n < 5
    · rw [if_pos (by simpa using hn)]
      refine Ok.idx g0 (by simpa using hn) (fun p hp _ => ?_)
      refine Ok.gen (Flip_k g2 (by omega) (by omega) (by omega)) (fun b s2 _ q2 => ?_)
      dsimp only
      unfold Stream_RightFleet_j1
      rw [w64_in (by omega) (by omega)]
      split
      · refine Ok.gen (Some_k q2 (by omega) (by simp) (by simp)) (fun u s6 _ q6 => ?_)
        refine Ok.gen (Pick_k q6 (by omega) (by simp) (by simp)) (fun v s7 _ q7 => ?_)
        refine Ok.gen (Pick_k q7 (by omega) (by simp) (by simp)) (fun w s8 _ q8 => ?_)
        refine Ok.app (by simp; omega) ?_
        exact Ok.ret ⟨⟨by simp only; omega, by simp only; omega, q8.less (by simp only; omega), by simp; omega⟩, by simp only; omega⟩
      · exact Ok.ret ⟨⟨by simp only; omega, by simp only; omega, q2.less (by simp only; omega), by simp only; omega⟩, by simp only; omega⟩
    · rw [if_neg (by simpa using hn)]
      exact Ok.inr (Ok.ret ⟨by simp only; omega, g2.less (by omega)⟩)
  unfold Stream_Fleet
  refine Ok.gen hr (fun l s1 hl q1 => ?_)
  dsimp only
  unfold Stream_Fleet_j1 Stream_Fleet_j2
  split
  · rename_i hpos
    refine Ok.gen (Flip_k q1 (by omega) (by omega) (by omega)) (fun b s2 _ q2 => ?_)
    dsimp only
    split
    · refine Ok.gen (Next_k q2 (by omega) (by omega) (by omega)) (fun n s3 hn q3 => ?_)
      dsimp only
      refine Ok.idx hn.1 hn.2 (fun p hp _ => ?_)
      refine Ok.gen (Some_k q3 (by omega) (by simp) (by simp)) (fun u s4 _ q4 => ?_)
      refine Ok.gen (Some_k q4 (by omega) (by simp) (by simp)) (fun v s5 _ q5 => ?_)
      refine Ok.gen (Version_k q5 (by omega)) (fun w s6 _ q6 => ?_)
      exact Ok.ret ⟨by simpa using hl, q6.less (by omega)⟩
    · exact Ok.ret ⟨hl, q2.less (by omega)⟩
  · rw [if_neg (by simp)]
    exact Ok.ret ⟨hl, q1.less (by omega)⟩
/-- Marks that are drawn. -/
def MG (k : Int) (l : List MarkS) : Prop := (l.length : Int) ≤ k ∧ ∀ x ∈ l, MB x
theorem MG.perm {k : Int} {l Z : List MarkS} (h : MG k l) (hp : Z.Perm l) : MG k Z := ⟨by rw [hp.length_eq]; exact h.1, fun c hc => h.2 c (hp.mem_iff.1 hc)⟩
theorem MG.sub {k : Int} {l Z : List MarkS} (h : MG k l) (hp : Z.Sublist l) : MG k Z := ⟨by have := hp.length_le; have := h.1; omega, fun c hc => h.2 c (hp.subset hc)⟩
theorem MG.snoc {k : Int} {l : List MarkS} (h : MG k l) {c : MarkS} (hc : MB c) : MG (k + 1) (l ++ [c]) :=
  ⟨by have := h.1; simp; omega, fun x hx => by
    rcases List.mem_append.1 hx with e | e
    · exact h.2 x e
    · rw [List.mem_singleton] at e; subst e; exact hc⟩
theorem Marks_k {s : Stm} {c : Campaign} {fl : List DeviceS} {many K : Int} (hs : SOk s K) (hm : 0 ≤ many ∧ many ≤ 20) (hK : 400 ≤ K) (hc : B40 c.At) (hf : fl.length ≤ 1000) : Gen (Stream_Marks s c fl many) (K - 400) (MG many) := by
  refine Gen.of ?_
  unfold Stream_Marks Stream_Marks_l1
  refine Ok.iter (fun x : List Int × Int × List MarkS × Int × Int => (many - x.2.2.2.2).toNat) (fun x : List Int × Int × List MarkS × Int × Int => 0 ≤ x.2.2.2.2 ∧ x.2.2.2.2 ≤ many ∧ SOk ⟨x.1, x.2.1⟩ (K - 390 + 15 * (many - x.2.2.2.2)) ∧ MG x.2.2.2.2 x.2.2.1 ∧ (-1099511627777 ≤ x.2.2.2.1 ∧ x.2.2.2.1 ≤ 1099511627777 + 10 * x.2.2.2.2)) ?_ _ ⟨by simp, by simp only; omega, hs.less (by simp only; omega), ⟨by simp, by simp⟩, by unfold B40 at hc; simp only; omega⟩
  rintro ⟨L, a, l, t, n⟩ ⟨g0, g1, g2, g3, g4⟩
  simp only at g0 g1 g2 g3 g4 ⊢
  have hll := g3.1
  unfold Stream_Marks_b1
  by_cases hn : n < many
  · rw [if_pos hn]
    refine Ok.gen (Pick_k g2 (by omega) (by simp) (by simp)) (fun p1 s1 h1 q1 => ?_)
    refine Ok.gen (Some_k q1 (by omega) (by simp) (by simp)) (fun p2 s2 h2 q2 => ?_)
    refine Ok.gen (Range_k q2 (by omega) (by omega) (by omega) (by omega)) (fun p3 s3 h3 q3 => ?_)
    refine Ok.gen (Pick_k q3 (by omega) (by simp) (by simp)) (fun p4 s4 h4 q4 => ?_)
    have hp1 : 0 ≤ p1 ∧ p1 ≤ 10 := by simp at h1; omega
    dsimp only
    have j8 : ∀ (x33 x34 x35 : Int) (L' : List Int) (a' : Int) (at' : Int) (q : Str) (kd : Int), (-1099511627777 ≤ at' ∧ at' ≤ 2099511627777) → SOk ⟨L', a'⟩ (K - 390 + 15 * (many - n - 1)) →
        Ok (Stream_Marks_j8 l t n (p1, s1) x33 x34 x35 L' a' at' q kd) (Stp (fun x : List Int × Int × List MarkS × Int × Int => (many - x.2.2.2.2).toNat) (fun x : List Int × Int × List MarkS × Int × Int => 0 ≤ x.2.2.2.2 ∧ x.2.2.2.2 ≤ many ∧ SOk ⟨x.1, x.2.1⟩ (K - 390 + 15 * (many - x.2.2.2.2)) ∧ MG x.2.2.2.2 x.2.2.1 ∧ (-1099511627777 ≤ x.2.2.2.1 ∧ x.2.2.2.1 ≤ 1099511627777 + 10 * x.2.2.2.2)) (fun r => MG many r.1 ∧ SOk r.2 (K - 400)) (L, a, l, t, n)) := by
      intro x33 x34 x35 L' a' at' q kd hat hs'
      unfold Stream_Marks_j8
      refine Ok.app (by simp; omega) ?_
      refine Ok.ret ?_
      rw [w64_in (x := t + p1) (by omega) (by omega), w64_in (x := n + 1) (by omega) (by omega)]
      exact ⟨⟨by simp only; omega, by simp only; omega, hs'.less (by simp only; omega), g3.snoc (by unfold MB; simp only; omega), by simp only; omega⟩, by simp only; omega⟩
    have j3 : ∀ (q : Str) (L' : List Int) (a' kd x33 x34 x35 : Int), SOk ⟨L', a'⟩ (K - 390 + 15 * (many - n - 1) + 6) →
        Ok (Stream_Marks_j3 l t n (p1, s1) q L' a' kd x33 x34 x35) (Stp (fun x : List Int × Int × List MarkS × Int × Int => (many - x.2.2.2.2).toNat) (fun x : List Int × Int × List MarkS × Int × Int => 0 ≤ x.2.2.2.2 ∧ x.2.2.2.2 ≤ many ∧ SOk ⟨x.1, x.2.1⟩ (K - 390 + 15 * (many - x.2.2.2.2)) ∧ MG x.2.2.2.2 x.2.2.1 ∧ (-1099511627777 ≤ x.2.2.2.1 ∧ x.2.2.2.1 ≤ 1099511627777 + 10 * x.2.2.2.2)) (fun r => MG many r.1 ∧ SOk r.2 (K - 400)) (L, a, l, t, n)) := by
      intro q L' a' kd x33 x34 x35 hs'
      unfold Stream_Marks_j3
      refine Ok.gen (Flip_k hs' (by omega) (by omega) (by omega)) (fun b s5 _ q5 => ?_)
      dsimp only
      split
      · refine Ok.gen (Odd_k q5 (by omega) (by omega) (by omega) (by omega)) (fun u s6 hu q6 => ?_)
        refine Ok.gen (Some_k q6 (by omega) (by simp) (by simp)) (fun v s7 _ q7 => ?_)
        refine Ok.gen (Odd_k q7 (by omega) (by omega) (by omega) (by omega)) (fun w s8 _ q8 => ?_)
        exact j8 _ _ _ _ _ _ _ _ (by omega) (q8.less (by omega))
      · rw [w64_in (x := t + p1) (by omega) (by omega)]
        exact j8 _ _ _ _ _ _ _ _ (by omega) (q5.less (by omega))
    have j2 : ∀ (q : Str) (L' : List Int) (a' : Int), SOk ⟨L', a'⟩ (K - 390 + 15 * (many - n - 1) + 8) →
        Ok (Stream_Marks_j2 l t n (p1, s1) (p3, s3) (p4, s4) L' a' q) (Stp (fun x : List Int × Int × List MarkS × Int × Int => (many - x.2.2.2.2).toNat) (fun x : List Int × Int × List MarkS × Int × Int => 0 ≤ x.2.2.2.2 ∧ x.2.2.2.2 ≤ many ∧ SOk ⟨x.1, x.2.1⟩ (K - 390 + 15 * (many - x.2.2.2.2)) ∧ MG x.2.2.2.2 x.2.2.1 ∧ (-1099511627777 ≤ x.2.2.2.1 ∧ x.2.2.2.1 ≤ 1099511627777 + 10 * x.2.2.2.2)) (fun r => MG many r.1 ∧ SOk r.2 (K - 400)) (L, a, l, t, n)) := by
      intro q L' a' hs'
      unfold Stream_Marks_j2
      refine Ok.gen (Flip_k hs' (by omega) (by omega) (by omega)) (fun b s5 _ q5 => ?_)
      dsimp only
      split
      · unfold Stream_Marks_l2
        refine Ok.iter (fun x : Int × Str × Int × Int × Int × Int × Int => (l.length - x.2.2.2.2.2.2).toNat) (fun x : Int × Str × Int × Int × Int × Int × Int => 0 ≤ x.2.2.2.2.2.2 ∧ x.2.2.2.2.2.2 ≤ l.length) ?_ _ ⟨by simp, by simp⟩
        rintro ⟨y1, y2, y3, y4, y5, y6, y7⟩ ⟨k0, k1⟩
        simp only at k0 k1 ⊢
        unfold Stream_Marks_b2
        by_cases hy : y7 < l.length
        · rw [if_pos hy]
          refine Ok.idx k0 hy (fun p hp _ => ?_)
          unfold Stream_Marks_j4
          rw [w64_in (by omega) (by omega)]
          split <;> exact Ok.ret ⟨⟨by simp only; omega, by simp only; omega⟩, by simp only; omega⟩
        · rw [if_neg hy]
          refine Ok.inr ?_
          unfold Stream_Marks_k7 Stream_Marks_j6 Stream_Marks_j5
          split
          · refine Ok.gen (Pick_k q5 (by omega) (by simp) (by simp)) (fun u s6 hu q6 => ?_)
            exact j3 _ _ _ _ _ _ _ (q6.less (by omega))
          · split
            · refine Ok.gen (Pick_k q5 (by omega) (by simp) (by simp)) (fun u s6 hu q6 => ?_)
              exact j3 _ _ _ _ _ _ _ (q6.less (by omega))
            · exact j3 _ _ _ _ _ _ _ (q5.less (by omega))
      · exact j3 _ _ _ _ _ _ _ (q5.less (by omega))
    unfold Stream_Marks_j1
    split
    · rename_i hpos
      refine Ok.gen (Flip_k q4 (by omega) (by omega) (by omega)) (fun b s5 _ q5 => ?_)
      dsimp only
      split
      · refine Ok.gen (Next_k q5 (by omega) (by omega) (by omega)) (fun u s6 hu q6 => ?_)
        dsimp only
        refine Ok.idx hu.1 hu.2 (fun p hp _ => ?_)
        exact j2 _ _ _ (q6.less (by omega))
      · exact j2 _ _ _ (q5.less (by omega))
    · rw [if_neg (by simp)]
      exact j2 _ _ _ (q4.less (by omega))
  · rw [if_neg hn]
    refine Ok.inr ?_
    unfold Stream_Marks_k9
    have hl' : MG many l := ⟨by omega, g3.2⟩
    obtain ⟨Z, z1, z2, _⟩ := mstable_len (fun y0 y1 => some (Q_MarkOrder y0 y1)) l (by omega) (fun x hx y hy => by rw [morder_B g3.2 x hx y hy])
    rw [z1]
    simp only [Option.bind_some]
    refine Ok.gen (Flip_k g2 (by omega) (by omega) (by omega)) (fun b s5 _ q5 => ?_)
    dsimp only
    split
    · exact Ok.ret ⟨hl'.perm z2, q5.less (by omega)⟩
    · rw [mcompactF_eq (fun y0 y1 => some (Stream_Marks_1x y0 y1)) Stream_Marks_1x Z (by have := z2.length_eq; omega) (fun x _ y _ => rfl)]
      exact Ok.ret ⟨(hl'.perm z2).sub (dd_sub _ _), q5.less (by omega)⟩
end Go.Beacon

/- Fractions: lowest terms, products of 128 bits, which of two is less. No program in sight. -/
set_option linter.unusedVariables false
set_option linter.unusedSimpArgs false
namespace Go.Beacon
open Go Go.Eng

end Go.Beacon

/- Campaigns: how a device stands: courses, marks that are followed. No program in sight. -/
set_option linter.unusedVariables false
set_option linter.unusedSimpArgs false
namespace Go.Beacon
open Go Go.Eng

def okK (k : Int) (off : Version) (m : MarkS) : Bool :=
  if m.Kind = 1 then decide (k = 0 ∨ k = 3 ∨ k = 4) else if m.Kind = 2 ∨ m.Kind = 5 then decide (k = 1 ∧ m.Version = off) else decide (k = 2 ∧ m.Version = off)
def upC (x : Campaign_course) (m : MarkS) : Campaign_course :=
  ⟨⟨m.Kind, m.At, if m.Kind = 3 then m.Version else x.Standing.Version, if m.Kind = 4 then w64 (x.Standing.Fails + 1) else x.Standing.Fails⟩, m.Version⟩
def okC (x : Campaign_course) (m : MarkS) : Bool := okK x.Standing.Kind x.offered_ m
def fol (x : Campaign_course) (m : MarkS) : Campaign_course := if okC x m = true then upC x m else x
def x0 (d : DeviceS) : Campaign_course := ⟨⟨0, 0, d.Firmware, 0⟩, ⟨0, 0, 0⟩⟩
theorem follow_j1 (x : Campaign_course) (m : MarkS) (b : Bool) : campaign_course_follow_j1 x m b = if b = true then (true, upC x m) else (false, x) := by
  unfold campaign_course_follow_j1 campaign_course_follow_j8 campaign_course_follow_j7 upC
  cases b
  · rfl
  · simp only [Bool.not_true, Bool.false_eq_true, if_false, if_true]
    by_cases h3 : m.Kind = 3
    · rw [if_pos h3, if_pos h3, if_neg (by omega)]
    · rw [if_neg h3, if_neg h3]
      by_cases h4 : m.Kind = 4
      · rw [if_pos h4, if_pos h4]
      · rw [if_neg h4, if_neg h4]
theorem follow_eq (x : Campaign_course) (m : MarkS) : campaign_course_follow x m = if okC x m = true then (true, upC x m) else (false, x) := by
  unfold campaign_course_follow campaign_course_follow_j2 campaign_course_follow_j3 campaign_course_follow_j5 campaign_course_follow_j6 campaign_course_follow_j4
  simp only [follow_j1]
  unfold okC okK
  by_cases h1 : m.Kind = 1
  · rw [if_pos h1, if_pos h1]
    rw [show (decide (x.Standing.Kind = 0) || (decide (x.Standing.Kind = 3) || decide (x.Standing.Kind = 4))) = decide (x.Standing.Kind = 0 ∨ x.Standing.Kind = 3 ∨ x.Standing.Kind = 4) by rw [Bool.eq_iff_iff]; simp]
  · rw [if_neg h1, if_neg h1]
    by_cases h2 : m.Kind = 2
    · rw [if_pos h2, if_pos (Or.inl h2), if_pos (by simp [h2])]
      rw [show (decide (x.Standing.Kind = 1) && decide (m.Version = x.offered_)) = decide (x.Standing.Kind = 1 ∧ m.Version = x.offered_) by rw [Bool.eq_iff_iff]; simp]
    · rw [if_neg h2]
      by_cases h5 : m.Kind = 5
      · rw [if_pos (Or.inr h5), if_pos (by simp [h5])]
        rw [show (decide (x.Standing.Kind = 1) && decide (m.Version = x.offered_)) = decide (x.Standing.Kind = 1 ∧ m.Version = x.offered_) by rw [Bool.eq_iff_iff]; simp]
      · rw [if_neg (show ¬ decide (m.Kind = 5) = true by simp [h5]), if_neg (show ¬ (m.Kind = 2 ∨ m.Kind = 5) by omega)]
        rw [show (decide (x.Standing.Kind = 2) && decide (m.Version = x.offered_)) = decide (x.Standing.Kind = 2 ∧ m.Version = x.offered_) by rw [Bool.eq_iff_iff]; simp]
theorem follow_1 (x : Campaign_course) (m : MarkS) : (campaign_course_follow x m).1 = okC x m := by
  rw [follow_eq]; split
  · rename_i h; rw [h]
  · rename_i h; simp only [Bool.not_eq_true] at h; rw [h]
theorem follow_2 (x : Campaign_course) (m : MarkS) : (campaign_course_follow x m).2 = fol x m := by
  rw [follow_eq]; unfold fol; split <;> rfl
/-- The marks of a device that are looked at. -/
def relM (c : Campaign) (k : Str) (m : MarkS) : Bool := decide (m.Device = k) && decide (c.At ≤ m.At)
def relA (c : Campaign) (k : Str) (at_ : Int) (m : MarkS) : Bool := decide (m.Device = k) && (decide (c.At ≤ m.At) && decide (m.At ≤ at_))
def stOf (c : Campaign) (d : DeviceS) (l : List MarkS) (at_ : Int) : Campaign_course := (l.filter (relA c d.Key at_)).foldl fol (x0 d)
/-! the reference -/
def lastMk (l : List MarkS) : Int × Version := match l.getLast? with
  | some m => (m.Kind, m.Version)
  | none => (0, ⟨0, 0, 0⟩)
def accM (l : List MarkS) (m : MarkS) : List MarkS := if okK (lastMk l).1 (lastMk l).2 m = true then l ++ [m] else l
theorem fol_acc : ∀ (ms A : List MarkS) (d : DeviceS) (x : Campaign_course), x = A.foldl upC (x0 d) → (x.Standing.Kind, x.offered_) = lastMk A → ms.foldl fol x = (ms.foldl accM A).foldl upC (x0 d)
  | [], A, d, x, h, _ => h
  | m :: r, A, d, x, h, hk => by
    rw [List.foldl_cons, List.foldl_cons]
    have e : okC x m = okK (lastMk A).1 (lastMk A).2 m := by unfold okC; rw [← hk]
    by_cases ho : okK (lastMk A).1 (lastMk A).2 m = true
    · rw [show accM A m = A ++ [m] by unfold accM; rw [if_pos ho], show fol x m = upC x m by unfold fol; rw [e, if_pos ho]]
      refine fol_acc r (A ++ [m]) d _ ?_ ?_
      · rw [List.foldl_append, ← h]; rfl
      · unfold lastMk; rw [List.getLast?_concat]; rfl
    · rw [show accM A m = A by unfold accM; rw [if_neg ho], show fol x m = x by unfold fol; rw [e, if_neg ho]]
      exact fol_acc r A d x h hk
theorem ContI (x : Int) : (slices_Contains_int_int [0, 3, 4] x = some (decide (x = 0 ∨ x = 3 ∨ x = 4))) ∧ (∀ a, slices_Contains_int_int [a] x = some (decide (x = a))) := by
  constructor
  · unfold slices_Contains_int_int slices_Index_int_int slices_Index_int_int_l1
    rw [iter_eq, slices_Index_int_int_b1, if_pos (by decide), show idx [(0 : Int), 3, 4] 0 = some 0 from rfl]
    simp only [Option.bind_some]
    by_cases h0 : x = 0
    · rw [if_pos h0, map_inr_after]; simp [h0]
    · rw [if_neg h0, Option.bind_some, after_inl, iter_eq, slices_Index_int_int_b1, show w64 (0 + 1) = 1 from rfl, if_pos (by decide), show idx [(0 : Int), 3, 4] 1 = some 3 from rfl]
      simp only [Option.bind_some]
      by_cases h3 : x = 3
      · rw [if_pos h3, map_inr_after]; simp [h3]
      · rw [if_neg h3, Option.bind_some, after_inl, iter_eq, slices_Index_int_int_b1, show w64 (1 + 1) = 2 from rfl, if_pos (by decide), show idx [(0 : Int), 3, 4] 2 = some 4 from rfl]
        simp only [Option.bind_some]
        by_cases h4 : x = 4
        · rw [if_pos h4, map_inr_after]; simp [h4]
        · rw [if_neg h4, Option.bind_some, after_inl, iter_eq, slices_Index_int_int_b1, show w64 (2 + 1) = 3 from rfl, if_neg (by decide), map_inr_after]; simp [h0, h3, h4]
  · intro a
    unfold slices_Contains_int_int slices_Index_int_int slices_Index_int_int_l1
    rw [iter_eq, slices_Index_int_int_b1, if_pos (by simp), show idx [a] 0 = some a from rfl]
    simp only [Option.bind_some]
    by_cases h0 : x = a
    · rw [if_pos h0, map_inr_after]; simp [h0]
    · rw [if_neg h0, Option.bind_some, after_inl, iter_eq, slices_Index_int_int_b1, show w64 (0 + 1) = 1 from rfl, if_neg (by simp), map_inr_after]; simp [h0]
theorem need_eq (k : Int) (hk : 1 ≤ k ∧ k ≤ 5) : mgetO (mset (mset (mset (mset (mset ([] : List (Int × (List Int))) (1 : Int) [(0 : Int), (3 : Int), (4 : Int)]) (2 : Int) [(1 : Int)]) (5 : Int) [(1 : Int)]) (3 : Int) [(2 : Int)]) (4 : Int) [(2 : Int)]) k [] = some (if k = 1 then [0, 3, 4] else if k = 2 ∨ k = 5 then [1] else [2]) := by
  have : k = 1 ∨ k = 2 ∨ k = 3 ∨ k = 4 ∨ k = 5 := by omega
  unfold mgetO
  simp only [mget_mset, mget_nil]
  rcases this with h | h | h | h | h <;> subst h <;> simp
theorem followed_j3 (l6 : List MarkS) (n7 : Int) (q : MarkS) (a : Int) (b : Str) (k x y z : Int) (hq : 1 ≤ q.Kind ∧ q.Kind ≤ 5) (hl : (l6.length : Int) ≤ 1000000) : Q_followed_j3 l6 n7 q a b k x y z = some (.inl (if okK k ⟨x, y, z⟩ q = true then l6 ++ [q] else l6, w64 (n7 + 1))) := by
  unfold Q_followed_j3
  rw [need_eq q.Kind hq]
  simp only [Option.bind_some]
  have hc : slices_Contains_int_int (if q.Kind = 1 then [0, 3, 4] else if q.Kind = 2 ∨ q.Kind = 5 then [1] else [2]) k = some (if q.Kind = 1 then decide (k = 0 ∨ k = 3 ∨ k = 4) else if q.Kind = 2 ∨ q.Kind = 5 then decide (k = 1) else decide (k = 2)) := by
    split
    · exact (ContI k).1
    · split
      · exact (ContI k).2 1
      · exact (ContI k).2 2
  rw [hc]
  simp only [Option.bind_some]
  have e : ((if q.Kind = 1 then decide (k = 0 ∨ k = 3 ∨ k = 4) else if q.Kind = 2 ∨ q.Kind = 5 then decide (k = 1) else decide (k = 2)) && (decide (q.Kind = 1) || decide (q.Version = ⟨x, y, z⟩))) = okK k ⟨x, y, z⟩ q := by
    unfold okK
    split
    · rename_i h; simp [h]
    · rename_i h
      split
      · simp [h]
      · simp [h]
  rw [e]
  unfold Q_followed_j4 Q_followed_j5 Q_followed_j1
  split
  · rw [app_le (by simp; omega)]; rfl
  · rfl
theorem followed_loop (c : Campaign) (k : Str) (l : List MarkS) (at_ : Int) (hl : (l.length : Int) ≤ 100000) (hK : ∀ q ∈ l, 1 ≤ q.Kind ∧ q.Kind ≤ 5) : ∀ (m n : Nat) (A : List MarkS), n + m = l.length → A.length ≤ n →
    Q_followed_l1 c k l at_ A (n : Int) = some (((l.drop n).filter (relA c k at_)).foldl accM A)
  | 0, n, A, h, ha => by
    unfold Q_followed_l1
    rw [iter_eq, Q_followed_b1, if_neg (by simp only; omega), List.drop_of_length_le (by omega), map_inr_after]
    rfl
  | m + 1, n, A, h, ha => by
    obtain ⟨q, hq, hqm, hd⟩ := idx_lt l (i := (n : Int)) (by omega) (by omega)
    rw [show ((n : Int)).toNat = n by omega, show ((n : Int) + 1).toNat = n + 1 by omega] at hd
    have w1 : w64 ((n : Int) + 1) = ((n + 1 : Nat) : Int) := by rw [w64_in] <;> omega
    have ih := fun A ha => followed_loop c k l at_ hl hK m (n + 1) A (by omega) ha
    unfold Q_followed_l1 at ih ⊢
    rw [iter_eq, Q_followed_b1, if_pos (by simp only; omega), hd, List.filter_cons]
    simp only
    rw [hq]
    simp only [Option.bind_some]
    rw [show (decide (q.Device ≠ k) || (decide (q.At < c.At) || decide (at_ < q.At))) = !(relA c k at_ q) by unfold relA; rw [Bool.eq_iff_iff]; simp [Int.not_le]]
    unfold Q_followed_j2
    by_cases hr : relA c k at_ q = true
    · rw [if_neg (by simp [hr]), if_pos hr, List.foldl_cons]
      have last : Q_followed_j2 A (n : Int) q false = some (.inl (accM A q, w64 ((n : Int) + 1))) := by
        unfold Q_followed_j2
        rw [if_neg (by simp)]
        rcases List.eq_nil_or_concat A with rfl | ⟨B, p, rfl⟩
        · rw [if_neg (by decide), followed_j3 _ _ _ _ _ _ _ _ _ (hK q hqm) (by simp)]; rfl
        · rw [List.concat_eq_append] at ha ⊢
          rw [List.length_append, List.length_singleton] at ha
          have wl : w64 (((B ++ [p]).length : Int) - 1) = (B.length : Int) := by rw [List.length_append, List.length_singleton, w64_in] <;> omega
          rw [wl, if_pos (by omega), idx_app B p [] rfl]
          simp only [Option.bind_some]
          rw [followed_j3 _ _ _ _ _ _ _ _ _ (hK q hqm) (by simp; omega)]
          unfold accM lastMk
          rw [List.getLast?_concat]
      unfold Q_followed_j2 at last
      rw [if_neg (by simp)] at last
      rw [last]
      simp only [Option.bind_some, after_inl]
      rw [w1]
      refine ih _ ?_
      unfold accM; split
      · simp; omega
      · omega
    · rw [if_pos (by simp [hr]), if_neg hr]
      unfold Q_followed_j1
      simp only [Option.bind_some, after_inl]
      rw [w1]
      exact ih A (by omega)
theorem followed_eq (c : Campaign) (k : Str) (l : List MarkS) (at_ : Int) (hl : (l.length : Int) ≤ 100000) (hK : ∀ q ∈ l, 1 ≤ q.Kind ∧ q.Kind ≤ 5) : Q_followed c k l at_ = some ((l.filter (relA c k at_)).foldl accM []) := by
  have := followed_loop c k l at_ hl hK l.length 0 [] (by simp) (by simp)
  rw [List.drop_zero] at this
  exact this
theorem accM_len : ∀ (ms A : List MarkS), (ms.foldl accM A).length ≤ A.length + ms.length
  | [], A => by simp
  | m :: r, A => by
    rw [List.foldl_cons]
    have := accM_len r (accM A m)
    have : (accM A m).length ≤ A.length + 1 := by unfold accM; split <;> simp
    rw [List.length_cons]; omega
theorem StandsOf_loop (v : List MarkS) (hl : (v.length : Int) ≤ 100000) : ∀ (m n : Nat) (x : Campaign_course), n + m = v.length →
    Q_StandsOf_l1 v x.Standing.Kind x.Standing.Since x.Standing.Version.Major x.Standing.Version.Minor x.Standing.Version.Patch x.Standing.Fails (n : Int) = some ((v.drop n).foldl upC x).Standing
  | 0, n, x, h => by
    unfold Q_StandsOf_l1
    rw [iter_eq, Q_StandsOf_b1, if_neg (by simp only; omega), List.drop_of_length_le (by omega), map_inr_after]
    rfl
  | m + 1, n, x, h => by
    obtain ⟨q, hq, hqm, hd⟩ := idx_lt v (i := (n : Int)) (by omega) (by omega)
    rw [show ((n : Int)).toNat = n by omega, show ((n : Int) + 1).toNat = n + 1 by omega] at hd
    have w1 : w64 ((n : Int) + 1) = ((n + 1 : Nat) : Int) := by rw [w64_in] <;> omega
    have ih := StandsOf_loop v hl m (n + 1) (upC x q) (by omega)
    unfold Q_StandsOf_l1 at ih ⊢
    rw [iter_eq, Q_StandsOf_b1, if_pos (by simp only; omega), hd, List.foldl_cons]
    simp only
    rw [hq]
    simp only [Option.bind_some]
    unfold Q_StandsOf_j2 Q_StandsOf_j1
    rw [w1]
    by_cases h3 : q.Kind = 3
    · rw [show upC x q = ⟨⟨q.Kind, q.At, q.Version, x.Standing.Fails⟩, q.Version⟩ by unfold upC; rw [if_pos h3, if_neg (by omega)]] at ih ⊢
      rw [if_pos h3]
      simp only [Option.bind_some, after_inl]
      exact ih
    · rw [if_neg h3]
      by_cases h4 : q.Kind = 4
      · rw [show upC x q = ⟨⟨q.Kind, q.At, x.Standing.Version, w64 (x.Standing.Fails + 1)⟩, q.Version⟩ by unfold upC; rw [if_neg h3, if_pos h4]] at ih ⊢
        rw [if_pos h4]
        simp only [Option.bind_some, after_inl]
        exact ih
      · rw [show upC x q = ⟨⟨q.Kind, q.At, x.Standing.Version, x.Standing.Fails⟩, q.Version⟩ by unfold upC; rw [if_neg h3, if_neg h4]] at ih ⊢
        rw [if_neg h4]
        simp only [Option.bind_some, after_inl]
        exact ih
theorem StandsOf_eq (c : Campaign) (d : DeviceS) (l : List MarkS) (at_ : Int) (hl : (l.length : Int) ≤ 10000) (hK : ∀ q ∈ l, 1 ≤ q.Kind ∧ q.Kind ≤ 5) : Q_StandsOf c d l at_ = some (stOf c d l at_).Standing := by
  unfold Q_StandsOf
  rw [followed_eq c d.Key l at_ (by omega) hK]
  simp only [Option.bind_some]
  have hx := accM_len (l.filter (relA c d.Key at_)) []
  have hf := List.length_filter_le (relA c d.Key at_) l
  have := StandsOf_loop ((l.filter (relA c d.Key at_)).foldl accM []) (by simp at hx; omega) _ 0 (x0 d) (Nat.zero_add _)
  rw [List.drop_zero] at this
  unfold stOf
  rw [fol_acc _ [] d (x0 d) rfl rfl]
  exact this
end Go.Beacon

/- Campaigns: the state of a whole campaign: how it begins, waves, marks. No program in sight. -/
set_option linter.unusedVariables false
set_option linter.unusedSimpArgs false
namespace Go.Beacon
open Go Go.Eng

abbrev CS := Campaign_state
theorem idx_nat {α : Type} {xs : List α} {i : Nat} {x : α} (h : xs[i]? = some x) : idx xs (i : Int) = some x := by
  unfold idx; rw [if_pos (by omega)]; simpa using h
/-- Waves of devices. -/
theorem wave_fine (c : Campaign) (hc : CRight c) (v : Int) (hv : v < 1000) : ∀ (m k : Nat) (S : Int), k + m = c.Waves.length → 0 ≤ S → S ≤ v → S + pSum (c.Waves.drop k) = 1000 → ∃ j : Int, campaign_waveOf_l1 c v S k = some j ∧ 0 ≤ j ∧ j < c.Waves.length := by
  have hlen := hc.len
  intro m
  induction m with
  | zero =>
    intro k S hk h1 h2 h3
    rw [List.drop_of_length_le (by omega)] at h3
    simp [pSum] at h3
    omega
  | succ m ih =>
    intro k S hk h1 h2 h3
    obtain ⟨w, hw, hm, hd⟩ := idx_lt c.Waves (i := (k : Int)) (by omega) (by omega)
    rw [show ((k : Int)).toNat = k by omega, show ((k : Int) + 1).toNat = k + 1 by omega] at hd
    have hp := hc.part w hm
    have w1 : w64 ((k : Int) + 1) = ((k + 1 : Nat) : Int) := by rw [w64_in] <;> omega
    have h4 : S + w.Part + pSum (c.Waves.drop (k + 1)) = 1000 := by
      rw [hd] at h3
      unfold pSum at h3 ⊢
      rw [List.map_cons, List.sum_cons] at h3
      omega
    unfold campaign_waveOf_l1
    rw [iter_eq, campaign_waveOf_b1, if_pos (by simp only; omega), hw]
    simp only [Option.bind_some]
    rw [w64_in (x := S + w.Part) (by omega) (by omega), w1]
    by_cases hq : v < S + w.Part
    · rw [if_pos hq]
      exact ⟨k, rfl, by omega, by omega⟩
    · rw [if_neg hq]
      simp only [Option.bind_some, after_inl]
      exact ih (k + 1) (S + w.Part) (by omega) (by omega) (by omega) h4
/-- The wave of a device, as a number. -/
noncomputable def wvN (c : Campaign) (k : Str) : Nat := ((campaign_waveOf c k).getD 0).toNat
theorem wave_ok (c : Campaign) (hc : CRight c) (k : Str) (hk : keyB k = true) : campaign_waveOf c k = some (wvN c k : Int) ∧ wvN c k < c.Waves.length := by
  have h1 := keyB_lenC hc.key
  have h2 := keyB_lenC hk
  have hlr := lot_rng c k
  obtain ⟨j, j1, j2, j3⟩ := wave_fine c hc (lotV c k) hlr.2 c.Waves.length 0 0 (by omega) (by omega) hlr.1 (by rw [List.drop_zero, hc.sum]; rfl)
  have e : campaign_waveOf c k = some j := by
    unfold campaign_waveOf
    rw [lot_eq c k (by omega) (by omega)]
    exact j1
  unfold wvN
  rw [e, Option.getD_some]
  exact ⟨by rw [show ((j.toNat : Nat) : Int) = j by omega], by omega⟩
/-! fleets -/
structure FRight (l : List DeviceS) : Prop where
  key : ∀ d ∈ l, keyB d.Key = true
  nod : (l.map DeviceS.Key).Nodup
def ents : List DeviceS → Nat → List (Str × Int)
  | [], _ => []
  | d :: r, k => (d.Key, (k : Int)) :: ents r (k + 1)
theorem ents_snoc (d : DeviceS) : ∀ (l : List DeviceS) (k : Nat), ents (l ++ [d]) k = ents l k ++ [(d.Key, ((k + l.length : Nat) : Int))]
  | [], k => by simp [ents]
  | x :: r, k => by
    rw [List.cons_append, ents, ents_snoc d r (k + 1), ents, List.cons_append, List.length_cons, show k + 1 + r.length = k + (r.length + 1) by omega]
theorem ents_key : ∀ (l : List DeviceS) (k : Nat), (ents l k).map Prod.fst = l.map DeviceS.Key
  | [], _ => rfl
  | d :: r, k => by rw [ents, List.map_cons, ents_key r (k + 1), List.map_cons]
theorem ents_mem : ∀ (l : List DeviceS) (k : Nat) (e : Str × Int), e ∈ ents l k → ∃ i d, l[i]? = some d ∧ e = (d.Key, ((k + i : Nat) : Int))
  | [], _, e, h => by cases h
  | d :: r, k, e, h => by
    rw [ents] at h
    rcases List.mem_cons.1 h with h | h
    · exact ⟨0, d, rfl, h⟩
    · obtain ⟨i, x, h1, h2⟩ := ents_mem r (k + 1) e h
      exact ⟨i + 1, x, by simpa using h1, by rw [h2, show k + 1 + i = k + (i + 1) by omega]⟩
theorem ents_at : ∀ (l : List DeviceS) (k i : Nat) (d : DeviceS), l[i]? = some d → (d.Key, ((k + i : Nat) : Int)) ∈ ents l k
  | [], _, i, d, h => by simp at h
  | x :: r, k, 0, d, h => by simp at h; subst h; rw [ents]; exact List.mem_cons_self
  | x :: r, k, i + 1, d, h => by
    rw [ents]
    refine List.mem_cons_of_mem _ ?_
    have := ents_at r (k + 1) i d (by simpa using h)
    rw [show k + (i + 1) = k + 1 + i by omega]; exact this
noncomputable def wavL (c : Campaign) (l : List DeviceS) : List (Str × Int) := l.map fun d => (d.Key, (wvN c d.Key : Int))
/-! the state -/
noncomputable def crs (c : Campaign) (dn : List MarkS) (d : DeviceS) : Campaign_course := (dn.filter (relM c d.Key)).foldl fol (x0 d)
structure SI (c : Campaign) (fl : List DeviceS) (s : CS) (dn : List MarkS) : Prop where
  c_ : s.c_ = c
  of_ : s.of_.Perm (ents fl 0)
  wave_ : s.wave_.Perm (wavL c fl)
  ar0 : s.ar0 = fl.map (crs c dn)
  open_ : s.open_.length = c.Waves.length
  ends_ : s.ends_.length = c.Waves.length
  fails_ : s.fails_.length = c.Waves.length
  bg : s.begins_.length ≤ c.Waves.length
  nx : 0 ≤ s.next_ → s.begins_.length < c.Waves.length
/-! marks -/
def ovC (c : Campaign) (x : Campaign_course) : Bool := decide (x.Standing.Version = c.Target) || (!(decide (x.Standing.Version = c.Target)) && (decide ((3 : Int) ≤ x.Standing.Fails) || decide (x.Standing.Kind = (5 : Int))))
theorem ov_eq (st : CS) (x : Campaign_course) : (campaign_state_ready st x || campaign_state_out st x) = ovC st.c_ x := by
  unfold campaign_state_out campaign_state_out_j1 campaign_state_ready ovC; rfl
def incAt (l : List Int) (k : Nat) (d : Int) : List Int := l.set k (w64 (l.getD k 0 + d))
theorem incAt_len (l : List Int) (k : Nat) (d : Int) : (incAt l k d).length = l.length := by unfold incAt; simp
theorem idx_get {l : List Int} {k : Nat} (h : k < l.length) : idx l (k : Int) = some (l.getD k 0) := by
  refine idx_nat ?_
  rw [List.getD_eq_getElem?_getD, List.getElem?_eq_getElem h]; rfl
def wavG (c : Campaign) (k : Nat) : Wave := c.Waves.getD k ⟨0, 0, 0, 0⟩
def opnS (c : Campaign) (op : List Int) (k : Nat) (x x' : Campaign_course) : List Int := if (ovC c x' != ovC c x) = true then (if ovC c x' = true then incAt op k (-1) else incAt op k 1) else op
def stpS (c : Campaign) (k : Nat) (en fa : List Int) (sp : Int) (m : MarkS) : Int := if sp < 0 ∧ (wavG c k).Least ≤ en.getD k 0 ∧ w64 ((wavG c k).Fails * en.getD k 0) < w64 (1000 * fa.getD k 0) then m.At else sp
def markS (st : CS) (i k : Nat) (x : Campaign_course) (m : MarkS) : CS :=
  if okC x m = true then
    if m.Kind ≠ 3 ∧ m.Kind ≠ 4 then { st with open_ := opnS st.c_ st.open_ k x (upC x m), ar0 := st.ar0.set i (fol x m) }
    else { st with open_ := opnS st.c_ st.open_ k x (upC x m), ends_ := incAt st.ends_ k 1, fails_ := if m.Kind = 4 then incAt st.fails_ k 1 else st.fails_, stopped_ := stpS st.c_ k (incAt st.ends_ k 1) (if m.Kind = 4 then incAt st.fails_ k 1 else st.fails_) st.stopped_ m, ar0 := st.ar0.set i (fol x m) }
  else { st with ar0 := st.ar0.set i (fol x m) }
theorem mark_eq (st : CS) (m : MarkS) (i k : Nat) (x : Campaign_course) (hi : mget? st.of_ m.Device = some (i : Int)) (hk : mget? st.wave_ m.Device = some (k : Int)) (ha : ¬ m.At < st.c_.At) (hx : st.ar0[i]? = some x)
    (hW : k < st.c_.Waves.length) (ho : k < st.open_.length) (he : k < st.ends_.length) (hf : k < st.fails_.length) : campaign_state_mark st m = some (markS st i k x m) := by
  have hxi := idx_nat hx
  unfold campaign_state_mark
  rw [hi, casesO_some]
  unfold campaign_state_mark_j2
  rw [if_neg (by simp; omega)]
  unfold mgetO
  rw [hk, hxi]
  simp only [Option.bind_some, Option.getD_some]
  unfold campaign_state_mark_j3
  rw [hxi]
  simp only [Option.bind_some, follow_1, follow_2, ov_eq, Int.toNat_natCast]
  unfold markS
  by_cases hok : okC x m = true
  · rw [if_neg (by simp [hok]), if_pos hok]
    have hfol : fol x m = upC x m := by unfold fol; rw [if_pos hok]
    rw [hfol]
    have j5 : ∀ op : List Int, campaign_state_mark_j5 st m (i : Int) (k : Int) x op = some (if m.Kind ≠ 3 ∧ m.Kind ≠ 4 then { st with open_ := op, ar0 := st.ar0.set i (upC x m) }
        else { st with open_ := op, ends_ := incAt st.ends_ k 1, fails_ := if m.Kind = 4 then incAt st.fails_ k 1 else st.fails_, stopped_ := stpS st.c_ k (incAt st.ends_ k 1) (if m.Kind = 4 then incAt st.fails_ k 1 else st.fails_) st.stopped_ m, ar0 := st.ar0.set i (upC x m) }) := by
      intro op
      unfold campaign_state_mark_j5 campaign_state_mark_j7
      simp only [follow_2, hfol, Int.toNat_natCast]
      by_cases hkk : m.Kind ≠ 3 ∧ m.Kind ≠ 4
      · rw [if_pos (by simp [hkk]), if_pos hkk]
      · rw [if_neg (by simpa using hkk), if_neg hkk, idx_get he]
        simp only [Option.bind_some]
        have j8 : ∀ fa : List Int, k < fa.length → campaign_state_mark_j8 st m (i : Int) (k : Int) x op (st.ends_.getD k 0) fa = some { st with open_ := op, ends_ := incAt st.ends_ k 1, fails_ := fa, stopped_ := stpS st.c_ k (incAt st.ends_ k 1) fa st.stopped_ m, ar0 := st.ar0.set i (upC x m) } := by
          intro fa hfa
          unfold campaign_state_mark_j8
          have hwv : idx st.c_.Waves (k : Int) = some (wavG st.c_ k) := by
            refine idx_nat ?_
            unfold wavG
            rw [List.getD_eq_getElem?_getD, List.getElem?_eq_getElem hW]; rfl
          rw [hwv]
          simp only [Option.bind_some, Int.toNat_natCast]
          have hen : st.ends_.set k (w64 (st.ends_.getD k 0 + 1)) = incAt st.ends_ k 1 := rfl
          rw [hen, idx_get (l := incAt st.ends_ k 1) (by rw [incAt_len]; exact he), idx_get hfa]
          simp only [Option.bind_some]
          have j10 : ∀ b : Bool, campaign_state_mark_j9 st m (i : Int) (k : Int) x op (st.ends_.getD k 0) fa b = some { st with open_ := op, ends_ := incAt st.ends_ k 1, fails_ := fa, stopped_ := if b = true then m.At else st.stopped_, ar0 := st.ar0.set i (upC x m) } := by
            intro b
            unfold campaign_state_mark_j9 campaign_state_mark_j10
            simp only [follow_2, hfol, Int.toNat_natCast]
            cases b <;> rfl
          simp only [j10]
          unfold stpS
          by_cases a1 : st.stopped_ < 0
          · rw [if_pos a1]
            by_cases a2 : (wavG st.c_ k).Least ≤ (incAt st.ends_ k 1).getD k 0
            · rw [if_pos a2]
              by_cases a3 : w64 ((wavG st.c_ k).Fails * (incAt st.ends_ k 1).getD k 0) < w64 (1000 * fa.getD k 0)
              · rw [if_pos (decide_eq_true a3), if_pos ⟨a1, a2, a3⟩]
              · rw [if_neg (by rw [decide_eq_false a3]; exact Bool.false_ne_true), if_neg (fun h => a3 h.2.2)]
            · rw [if_neg a2, if_neg (by simp), if_neg (fun h => a2 h.2.1)]
          · rw [if_neg a1, if_neg (by simp), if_neg (fun h => a1 h.1)]
        by_cases h4 : m.Kind = 4
        · rw [if_pos h4, if_pos h4, idx_get hf]
          simp only [Option.bind_some]
          exact j8 (incAt st.fails_ k 1) (by rw [incAt_len]; exact hf)
        · rw [if_neg h4, if_neg h4]
          exact j8 st.fails_ hf
    unfold campaign_state_mark_j4 campaign_state_mark_j6
    simp only [j5, idx_get ho, Option.bind_some, Int.toNat_natCast]
    unfold opnS
    by_cases b1 : (ovC st.c_ (upC x m) != ovC st.c_ x) = true
    · rw [if_pos b1, if_pos b1]
      by_cases b2 : ovC st.c_ (upC x m) = true
      · rw [if_pos b2, if_pos b2]
        rfl
      · rw [if_neg b2, if_neg b2]
        rfl
    · rw [if_neg b1, if_neg b1]
  · rw [if_pos (by simpa using hok), if_neg hok]
theorem mark_skip (st : CS) (m : MarkS) (h : mget? st.of_ m.Device = none ∨ m.At < st.c_.At) : campaign_state_mark st m = some st := by
  unfold campaign_state_mark
  cases e : mget? st.of_ m.Device with
  | none => rw [casesO_none]; unfold campaign_state_mark_j1; rw [if_pos (by simp)]
  | some n =>
    rw [casesO_some]; unfold campaign_state_mark_j2
    rcases h with h | h
    · rw [e] at h; cases h
    · rw [if_pos (by simp [h])]
theorem markS_keep (st : CS) (i k : Nat) (x : Campaign_course) (m : MarkS) : (markS st i k x m).c_ = st.c_ ∧ (markS st i k x m).of_ = st.of_ ∧ (markS st i k x m).wave_ = st.wave_ ∧ (markS st i k x m).ar0 = st.ar0.set i (fol x m) ∧ (markS st i k x m).begins_ = st.begins_ ∧ (markS st i k x m).next_ = st.next_ ∧
    (markS st i k x m).open_.length = st.open_.length ∧ (markS st i k x m).ends_.length = st.ends_.length ∧ (markS st i k x m).fails_.length = st.fails_.length := by
  have ho : ∀ c op x', (opnS c op k x x').length = op.length := by
    intro c op x'; unfold opnS; split
    · split <;> exact incAt_len _ _ _
    · rfl
  unfold markS
  split
  · split
    · exact ⟨rfl, rfl, rfl, rfl, rfl, rfl, ho _ _ _, rfl, rfl⟩
    · refine ⟨rfl, rfl, rfl, rfl, rfl, rfl, ho _ _ _, incAt_len _ _ _, ?_⟩
      show (if m.Kind = 4 then incAt st.fails_ k 1 else st.fails_).length = _
      split
      · exact incAt_len _ _ _
      · rfl
  · exact ⟨rfl, rfl, rfl, rfl, rfl, rfl, rfl, rfl, rfl⟩
end Go.Beacon

/- Campaigns: a whole campaign from its first moment to a moment; Done. No program in sight. -/
set_option linter.unusedVariables false
set_option linter.unusedSimpArgs false
namespace Go.Beacon
open Go Go.Eng

theorem nod_inj : ∀ {l : List DeviceS}, (l.map DeviceS.Key).Nodup → ∀ (i j : Nat) (a b : DeviceS), l[i]? = some a → l[j]? = some b → a.Key = b.Key → i = j
  | [], _, i, j, a, b, h, _, _ => by simp at h
  | x :: r, hn, i, j, a, b, h1, h2, h3 => by
    rw [List.map_cons, List.nodup_cons] at hn
    match i, j with
    | 0, 0 => rfl
    | 0, j + 1 =>
      exfalso; simp at h1 h2; subst h1
      exact hn.1 (List.mem_map.2 ⟨b, List.mem_of_getElem? h2, h3.symm⟩)
    | i + 1, 0 =>
      exfalso; simp at h1 h2; subst h2
      exact hn.1 (List.mem_map.2 ⟨a, List.mem_of_getElem? h1, h3⟩)
    | i + 1, j + 1 =>
      have := nod_inj hn.2 i j a b (by simpa using h1) (by simpa using h2) h3
      omega
theorem map_set_one {α β : Type} {f h : α → β} {l : List α} {i : Nat} {d : α} (hd : l[i]? = some d) (hr : ∀ j d', j ≠ i → l[j]? = some d' → f d' = h d') : (l.map f).set i (h d) = l.map h := by
  refine List.ext_getElem? (fun j => ?_)
  rw [List.getElem?_set, List.getElem?_map, List.getElem?_map]
  have hi : i < l.length := (List.getElem?_eq_some_iff.1 hd).1
  by_cases e : i = j
  · subst e
    rw [if_pos rfl, if_pos (by simpa using hi), hd]; rfl
  · rw [if_neg e]
    cases hj : l[j]? with
    | none => rfl
    | some d' => simp [hr j d' (fun h => e h.symm) hj]
theorem crs_snoc (c : Campaign) (dn : List MarkS) (m : MarkS) (d : DeviceS) : crs c (dn ++ [m]) d = if relM c d.Key m = true then fol (crs c dn d) m else crs c dn d := by
  unfold crs
  rw [List.filter_append, List.foldl_append, List.filter_cons]
  split <;> rfl
theorem ents_nod {fl : List DeviceS} (hf : FRight fl) {of : List (Str × Int)} (hp : of.Perm (ents fl 0)) : (of.map Prod.fst).Nodup := by
  refine (hp.map Prod.fst).nodup_iff.2 ?_
  rw [ents_key]; exact hf.nod
theorem wavL_nod {c : Campaign} {fl : List DeviceS} (hf : FRight fl) {wv : List (Str × Int)} (hp : wv.Perm (wavL c fl)) : (wv.map Prod.fst).Nodup := by
  refine (hp.map Prod.fst).nodup_iff.2 ?_
  unfold wavL
  rw [List.map_map]; exact hf.nod
theorem of_get {fl : List DeviceS} (hf : FRight fl) {of : List (Str × Int)} (hp : of.Perm (ents fl 0)) {i : Nat} {d : DeviceS} (hd : fl[i]? = some d) : mget? of d.Key = some (i : Int) := by
  refine mget_of_mem (ents_nod hf hp) (hp.mem_iff.2 ?_)
  have := ents_at fl 0 i d hd
  rw [Nat.zero_add] at this; exact this
theorem wv_get {c : Campaign} {fl : List DeviceS} (hf : FRight fl) {wv : List (Str × Int)} (hp : wv.Perm (wavL c fl)) {d : DeviceS} (hd : d ∈ fl) : mget? wv d.Key = some (wvN c d.Key : Int) :=
  mget_of_mem (wavL_nod hf hp) (hp.mem_iff.2 (List.mem_map.2 ⟨d, hd, rfl⟩))
theorem of_none {fl : List DeviceS} {of : List (Str × Int)} (hp : of.Perm (ents fl 0)) {k : Str} (h : ∀ d ∈ fl, d.Key ≠ k) : mget? of k = none := by
  refine mget_none.2 (fun e he hk => ?_)
  obtain ⟨i, d, h1, h2⟩ := ents_mem fl 0 e (hp.mem_iff.1 he)
  rw [h2] at hk
  exact h d (List.mem_of_getElem? h1) hk
/-- What a mark does. -/
theorem mark_is {c : Campaign} {fl : List DeviceS} {s : CS} {dn : List MarkS} (hc : CRight c) (hf : FRight fl) (h : SI c fl s dn) (m : MarkS) :
    (campaign_state_mark s m = some s ∧ ∀ d ∈ fl, relM c d.Key m = false) ∨ (∃ i d, fl[i]? = some d ∧ relM c d.Key m = true ∧ campaign_state_mark s m = some (markS s i (wvN c d.Key) (crs c dn d) m)) := by
  by_cases hdev : ∃ d, d ∈ fl ∧ d.Key = m.Device
  · obtain ⟨d, hm, hk⟩ := hdev
    obtain ⟨i, hi⟩ := List.getElem?_of_mem hm
    by_cases ha : m.At < c.At
    · left
      exact ⟨mark_skip s m (.inr (by rw [h.c_]; exact ha)), fun d _ => by unfold relM; simp; intro _; omega⟩
    · right
      have hw := (wave_ok c hc d.Key (hf.key d hm)).2
      refine ⟨i, d, hi, by unfold relM; simp [hk]; omega, ?_⟩
      refine mark_eq s m i (wvN c d.Key) (crs c dn d) ?_ ?_ (by rw [h.c_]; exact ha) ?_ (by rw [h.c_]; exact hw) (by rw [h.open_]; exact hw) (by rw [h.ends_]; exact hw) (by rw [h.fails_]; exact hw)
      · rw [← hk]; exact of_get hf h.of_ hi
      · rw [← hk]; exact wv_get hf h.wave_ hm
      · rw [h.ar0, List.getElem?_map, hi]; rfl
  · left
    refine ⟨mark_skip s m (.inl (of_none h.of_ (fun d hd hk => hdev ⟨d, hd, hk⟩))), fun d hd => ?_⟩
    unfold relM
    rw [Bool.and_eq_false_iff]
    exact .inl (decide_eq_false (fun hk => hdev ⟨d, hd, hk.symm⟩))
theorem mark_SI {c : Campaign} {fl : List DeviceS} {s : CS} {dn : List MarkS} (hc : CRight c) (hf : FRight fl) (h : SI c fl s dn) (m : MarkS) : Ok (campaign_state_mark s m) (fun r => SI c fl r (dn ++ [m])) := by
  rcases mark_is hc hf h m with ⟨e, hr⟩ | ⟨i, d, hi, hr, e⟩
  · refine ⟨s, e, ⟨h.c_, h.of_, h.wave_, ?_, h.open_, h.ends_, h.fails_, h.bg, h.nx⟩⟩
    rw [h.ar0]
    refine List.map_congr_left (fun d hd => ?_)
    rw [crs_snoc, hr d hd]; rfl
  · obtain ⟨k1, k2, k3, k4, k5, k6, k7, k8, k9⟩ := markS_keep s i (wvN c d.Key) (crs c dn d) m
    refine ⟨_, e, ⟨by rw [k1]; exact h.c_, by rw [k2]; exact h.of_, by rw [k3]; exact h.wave_, ?_, by rw [k7]; exact h.open_, by rw [k8]; exact h.ends_, by rw [k9]; exact h.fails_, by rw [k5]; exact h.bg, by rw [k5, k6]; exact h.nx⟩⟩
    rw [k4, h.ar0, show fol (crs c dn d) m = crs c (dn ++ [m]) d by rw [crs_snoc, if_pos hr]]
    refine map_set_one hi (fun j d' hj hd' => ?_)
    rw [crs_snoc, if_neg]
    intro hr'
    unfold relM at hr hr'
    simp only [Bool.and_eq_true, decide_eq_true_eq] at hr hr'
    exact hj (nod_inj hf.nod j i d' d hd' hi (by rw [← hr'.1, hr.1]))
def sameS (r s : CS) : Prop := r.c_ = s.c_ ∧ r.of_ = s.of_ ∧ r.wave_ = s.wave_ ∧ r.ar0 = s.ar0
/-! how it begins -/
noncomputable def opn0 (c : Campaign) (op : List Int) (d : DeviceS) : List Int := if decide (d.Firmware = c.Target) = true then op else incAt op (wvN c d.Key) 1
theorem opn0_len (c : Campaign) : ∀ (l : List DeviceS) (op : List Int), (l.foldl (opn0 c) op).length = op.length
  | [], _ => rfl
  | d :: r, op => by
    rw [List.foldl_cons, opn0_len c r]
    unfold opn0; split
    · rfl
    · exact incAt_len _ _ _
theorem mset_new {m : List (Str × Int)} {k : Str} {v : Int} (h : ∀ e ∈ m, e.1 ≠ k) : (mset m k v).Perm (m ++ [(k, v)]) := by
  refine (mset_perm m k v).trans ?_
  have : mdel m k = m := by unfold mdel; exact List.filter_eq_self.2 (fun e he => by simp [h e he])
  rw [this]
  exact (List.perm_append_singleton (k, v) m).symm
theorem newState_loop (c : Campaign) (fl : List DeviceS) (hc : CRight c) (hf : FRight fl) (hl : (fl.length : Int) ≤ 100000) (R8 R10 R0 : List Int) (hR : R0.length = c.Waves.length) : ∀ (m n : Nat) (of wv : List (Str × Int)), n + m = fl.length → of.Perm (ents (fl.take n) 0) → wv.Perm (wavL c (fl.take n)) →
    ∃ of' wv', campaign_newState_l1 c fl R8 R10 ((fl.take n).map x0) of wv ((fl.take n).foldl (opn0 c) R0) (n : Int) = some ⟨c, of', wv', fl.foldl (opn0 c) R0, R8, R10, [], -1, c.At, fl.map x0⟩ ∧ of'.Perm (ents fl 0) ∧ wv'.Perm (wavL c fl)
  | 0, n, of, wv, h, h1, h2 => by
    rw [List.take_of_length_le (by omega)] at h1 h2 ⊢
    refine ⟨of, wv, ?_, h1, h2⟩
    unfold campaign_newState_l1
    rw [iter_eq, campaign_newState_b1, if_neg (by simp only; omega), map_inr_after]
  | m + 1, n, of, wv, h, h1, h2 => by
    obtain ⟨d, hd, hdm, hdr⟩ := idx_lt fl (i := (n : Int)) (by omega) (by omega)
    have hg : fl[n]? = some d := by have := (idx_some hd).2.2; rwa [Int.toNat_natCast] at this
    have ht : fl.take (n + 1) = fl.take n ++ [d] := by rw [List.take_add_one, hg]; rfl
    have hnl : (fl.take n).length = n := by rw [List.length_take]; omega
    have hnew : ∀ x ∈ fl.take n, x.Key ≠ d.Key := by
      intro x hx hk
      obtain ⟨j, hj⟩ := List.getElem?_of_mem hx
      have hjl : j < n := by have := (List.getElem?_eq_some_iff.1 hj).1; omega
      rw [List.getElem?_take_of_lt hjl] at hj
      have := nod_inj hf.nod j n x d hj hg hk
      omega
    have hof : ∀ e ∈ of, e.1 ≠ d.Key := by
      intro e he hk
      obtain ⟨j, x, a1, a2⟩ := ents_mem _ 0 e (h1.mem_iff.1 he)
      rw [a2] at hk
      exact hnew x (List.mem_of_getElem? a1) hk
    have hwv : ∀ e ∈ wv, e.1 ≠ d.Key := by
      intro e he hk
      obtain ⟨x, a1, a2⟩ := List.mem_map.1 (h2.mem_iff.1 he)
      rw [← a2] at hk
      exact hnew x a1 hk
    have hin : inB ((fl.take n).map x0).length (of.map Prod.snd) = some () := by
      unfold inB
      rw [if_pos]
      intro y hy
      obtain ⟨e, he, rfl⟩ := List.mem_map.1 hy
      obtain ⟨j, x, a1, a2⟩ := ents_mem _ 0 e (h1.mem_iff.1 he)
      have := (List.getElem?_eq_some_iff.1 a1).1
      rw [a2, List.length_map, hnl]
      simp only
      omega
    obtain ⟨w1, w2⟩ := wave_ok c hc d.Key (hf.key d hdm)
    have wn : w64 ((n : Int) + 1) = ((n + 1 : Nat) : Int) := by rw [w64_in] <;> omega
    have hol : ((fl.take n).foldl (opn0 c) R0).length = c.Waves.length := by rw [opn0_len]; exact hR
    obtain ⟨of', wv', r1, r2, r3⟩ := newState_loop c fl hc hf hl R8 R10 R0 hR m (n + 1) (mset of d.Key (n : Int)) (mset wv d.Key (wvN c d.Key : Int)) (by omega)
      (by rw [ht, ents_snoc, hnl, Nat.zero_add]; exact (mset_new hof).trans (h1.append_right _))
      (by rw [ht]; unfold wavL; rw [List.map_append]; exact (mset_new hwv).trans (h2.append_right _))
    refine ⟨of', wv', ?_, r2, r3⟩
    rw [← r1, ht, List.map_append, List.foldl_append]
    unfold campaign_newState_l1
    conv => lhs; rw [iter_eq]
    rw [campaign_newState_b1, if_pos (by simp only; omega)]
    simp only
    rw [hd]
    simp only [Option.bind_some]
    rw [hin, w1]
    simp only [Option.bind_some]
    unfold mgetO campaign_newState_j1
    rw [mget_mset, if_pos rfl, List.length_map, hnl, wn]
    simp only [Option.bind_some, Option.getD_some, Int.toNat_natCast]
    rw [idx_get (l := (fl.take n).foldl (opn0 c) R0) (by rw [hol]; exact w2)]
    simp only [Option.bind_some, List.foldl_cons, List.foldl_nil, List.map_cons, List.map_nil]
    have hrdy : ∀ s : CS, s.c_ = c → campaign_state_ready s ⟨⟨0, 0, d.Firmware, 0⟩, ⟨0, 0, 0⟩⟩ = decide (d.Firmware = c.Target) := by
      intro s hs; unfold campaign_state_ready; rw [hs]
    rw [hrdy _ rfl]
    unfold opn0
    by_cases hq : d.Firmware = c.Target
    · rw [if_neg (by simp [hq]), if_pos (by simp [hq])]
      rfl
    · rw [if_pos (by simp [hq]), if_neg (by simp [hq])]
      rfl
theorem newState_eq (c : Campaign) (fl : List DeviceS) (hc : CRight c) (hf : FRight fl) (hl : (fl.length : Int) ≤ 100000) : ∃ of' wv', campaign_newState c fl = some ⟨c, of', wv', fl.foldl (opn0 c) (List.replicate c.Waves.length 0), List.replicate c.Waves.length 0, List.replicate c.Waves.length 0, [], -1, c.At, fl.map x0⟩ ∧ of'.Perm (ents fl 0) ∧ wv'.Perm (wavL c fl) := by
  have hlen := hc.len
  have hmk : mkS (0 : Int) (c.Waves.length : Int) (c.Waves.length : Int) = some (List.replicate c.Waves.length 0) := by
    unfold mkS; rw [if_pos (by omega), Int.toNat_natCast]
  obtain ⟨a, b, r1, r2, r3⟩ := newState_loop c fl hc hf hl (List.replicate c.Waves.length 0) (List.replicate c.Waves.length 0) (List.replicate c.Waves.length 0) (by simp) fl.length 0 [] [] (by simp) (List.Perm.refl _) (List.Perm.refl _)
  refine ⟨a, b, ?_, r2, r3⟩
  unfold campaign_newState
  rw [hmk]
  exact r1
theorem newState_SI (c : Campaign) (fl : List DeviceS) (hc : CRight c) (hf : FRight fl) (hl : (fl.length : Int) ≤ 100000) : Ok (campaign_newState c fl) (fun s => SI c fl s [] ∧ s.open_ = fl.foldl (opn0 c) (List.replicate c.Waves.length 0) ∧ s.ends_ = List.replicate c.Waves.length 0 ∧ s.fails_ = List.replicate c.Waves.length 0 ∧ s.begins_ = [] ∧ s.stopped_ = -1 ∧ s.next_ = c.At) := by
  obtain ⟨a, b, r1, r2, r3⟩ := newState_eq c fl hc hf hl
  refine ⟨_, r1, ⟨rfl, r2, r3, rfl, by rw [opn0_len]; simp, by simp, by simp, by simp, fun _ => ?_⟩, rfl, rfl, rfl, rfl, rfl, rfl⟩
  have := hc.sum
  cases hw : c.Waves with
  | nil => rw [hw] at this; simp [pSum] at this
  | cons x y => simp
end Go.Beacon

/- Campaigns: marks up to a moment. No program in sight. -/
set_option linter.unusedVariables false
set_option linter.unusedSimpArgs false
namespace Go.Beacon
open Go Go.Eng

abbrev Tup := (List (Str × Int)) × (List Campaign_course) × (List (Str × Int)) × (List Int) × (List Int) × (List Int) × (List Int) × Int × Int × Int
def unT (c : Campaign) (t : Tup) : CS := ⟨c, t.1, t.2.2.1, t.2.2.2.1, t.2.2.2.2.1, t.2.2.2.2.2.1, t.2.2.2.2.2.2.1, t.2.2.2.2.2.2.2.1, t.2.2.2.2.2.2.2.2.1, t.2.1⟩
def nT (t : Tup) : Int := t.2.2.2.2.2.2.2.2.2
theorem same_eq {r s : CS} (h : sameS r s) : (⟨s.c_, s.of_, s.wave_, r.open_, r.ends_, r.fails_, r.begins_, r.stopped_, r.next_, s.ar0⟩ : CS) = r := by
  obtain ⟨h1, h2, h3, h4⟩ := h
  rw [← h1, ← h2, ← h3, ← h4]
/-- Marks up to a moment, moment by moment. -/
theorem until_gen (c : Campaign) (st0 : CS) (l : List MarkS) (at_ : Int) (hl : (l.length : Int) ≤ 10000) (hm : ∀ x ∈ l, 0 ≤ x.At ∧ x.At ≤ 345686399999) (hs : l.Pairwise (fun a b => a.At ≤ b.At)) (P M : CS → Nat → Int → Prop) (R : CS → Nat → Prop)
    (hc : st0.c_ = c)
    (h1 : ∀ s n T x, s.c_ = c → P s n T → l[n]? = some x → T < x.At → x.At ≤ at_ → Ok (campaign_state_begin s (x.At - 1)) (fun r => sameS r s ∧ M r n x.At))
    (h2 : ∀ s n x now, s.c_ = c → M s n now → l[n]? = some x → x.At = now → now ≤ at_ → Ok (campaign_state_mark s x) (fun r => r.c_ = c ∧ M r (n + 1) now))
    (h3 : ∀ s n now, s.c_ = c → M s n now → (∀ x ∈ l.drop n, now < x.At) → now ≤ at_ → Ok (campaign_state_begin s now) (fun r => sameS r s ∧ P r n now))
    (h4 : ∀ s n T, s.c_ = c → P s n T → (∀ x ∈ l.drop n, at_ < x.At) → T ≤ at_ → Ok (campaign_state_begin s at_) (fun r => sameS r s ∧ R r n))
    (T0 : Int) (h0 : P st0 0 T0) (hT0 : T0 ≤ at_ ∧ ∀ x ∈ l, T0 < x.At) : Ok (campaign_state_until st0 l at_) (fun r => ∃ n, n ≤ l.length ∧ R r n) := by
  unfold campaign_state_until campaign_state_until_l1
  have key : ∀ t : Tup, nT t = 0 → unT c t = st0 → Ok (iter (fun x : Tup => campaign_state_until_b1 st0 l at_ x.1 x.2.1 x.2.2.1 x.2.2.2.1 x.2.2.2.2.1 x.2.2.2.2.2.1 x.2.2.2.2.2.2.1 x.2.2.2.2.2.2.2.1 x.2.2.2.2.2.2.2.2.1 x.2.2.2.2.2.2.2.2.2) t) (fun r => ∃ n, n ≤ l.length ∧ R r n) := by
    intro t e1 e2
    refine Ok.iter (fun t : Tup => l.length - (nT t).toNat) (fun t : Tup => ∃ n : Nat, nT t = (n : Int) ∧ n ≤ l.length ∧ ∃ T, P (unT c t) n T ∧ T ≤ at_ ∧ ∀ x ∈ l.drop n, T < x.At) ?_ t ⟨0, by rw [e1]; rfl, by omega, T0, by rw [e2]; exact h0, hT0.1, by rw [List.drop_zero]; exact hT0.2⟩
    rintro ⟨a1, a2, a3, a4, a5, a6, a7, a8, a9, a10⟩ ⟨n, g1, g2, T, g3, g4, g5⟩
    unfold nT at g1
    simp only at g1
    subst g1
    have hk4 : (∀ x ∈ l.drop n, at_ < x.At) → Ok (campaign_state_until_j1 st0 l at_ a1 a2 a3 a4 a5 a6 a7 a8 a9 (n : Int) false) (Stp (fun t : Tup => l.length - (nT t).toNat) (fun t : Tup => ∃ n : Nat, nT t = (n : Int) ∧ n ≤ l.length ∧ ∃ T, P (unT c t) n T ∧ T ≤ at_ ∧ ∀ x ∈ l.drop n, T < x.At) (fun r => ∃ n, n ≤ l.length ∧ R r n) (a1, a2, a3, a4, a5, a6, a7, a8, a9, (n : Int))) := by
      intro hx
      unfold campaign_state_until_j1
      rw [if_neg (by simp)]
      refine Ok.inr ?_
      unfold campaign_state_until_k4
      rw [hc]
      refine Ok.bind (h4 (unT c (a1, a2, a3, a4, a5, a6, a7, a8, a9, (n : Int))) n T rfl g3 hx g4) (fun v hv => ?_)
      refine Ok.ret ⟨n, g2, ?_⟩
      have := same_eq hv.1
      unfold unT at this
      simp only at this
      rw [this]
      exact hv.2
    simp only
    unfold campaign_state_until_b1
    by_cases hn : (n : Int) < l.length
    · rw [if_pos hn]
      obtain ⟨x, hx, hxm, hd⟩ := idx_lt l (i := (n : Int)) (by omega) hn
      rw [show ((n : Int)).toNat = n by omega, show ((n : Int) + 1).toNat = n + 1 by omega] at hd
      have hxg : l[n]? = some x := by have := (idx_some hx).2.2; rwa [Int.toNat_natCast] at this
      rw [hx]
      simp only [Option.bind_some]
      have hsd : ∀ y ∈ l.drop (n + 1), x.At ≤ y.At := by
        have := List.Pairwise.drop (i := n) hs
        rw [hd, List.pairwise_cons] at this
        exact this.1
      by_cases ha : x.At ≤ at_
      · unfold campaign_state_until_j1
        rw [if_pos (by simpa using ha), hx, hc]
        simp only [Option.bind_some]
        have hb := hm x hxm
        rw [w64_in (x := x.At - 1) (by omega) (by omega)]
        refine Ok.bind (h1 (unT c (a1, a2, a3, a4, a5, a6, a7, a8, a9, (n : Int))) n T x rfl g3 hxg (g5 x (by rw [hd]; exact List.mem_cons_self)) ha) (fun v hv => ?_)
        have hve := same_eq hv.1
        unfold unT at hve
        simp only at hve
        unfold campaign_state_until_l2
        refine (Ok.iter (R := fun r : Tup ⊕ CS => Stp (fun t : Tup => l.length - (nT t).toNat) (fun t : Tup => ∃ n : Nat, nT t = (n : Int) ∧ n ≤ l.length ∧ ∃ T, P (unT c t) n T ∧ T ≤ at_ ∧ ∀ x ∈ l.drop n, T < x.At) (fun r => ∃ n, n ≤ l.length ∧ R r n) (a1, a2, a3, a4, a5, a6, a7, a8, a9, (n : Int)) r) (fun t : Tup => l.length - (nT t).toNat) (fun t : Tup => ∃ k : Nat, nT t = (k : Int) ∧ n ≤ k ∧ k ≤ l.length ∧ M (unT c t) k x.At) ?_ (a1, a2, a3, v.open_, v.ends_, v.fails_, v.begins_, v.stopped_, v.next_, (n : Int)) ⟨n, rfl, Nat.le_refl _, g2, by unfold unT; simp only; rw [hve]; exact hv.2⟩)
        rintro ⟨b1, b2, b3, b4, b5, b6, b7, b8, b9, b10⟩ ⟨k, q1, q2, q3, q4⟩
        unfold nT at q1
        simp only at q1
        subst q1
        have fin : (∀ y ∈ l.drop k, x.At < y.At) → n < k → Ok (campaign_state_until_j2 st0 l x b1 b2 b3 b4 b5 b6 b7 b8 b9 (k : Int) false) (Stp (fun t : Tup => l.length - (nT t).toNat) (fun t : Tup => ∃ k : Nat, nT t = (k : Int) ∧ n ≤ k ∧ k ≤ l.length ∧ M (unT c t) k x.At) (fun r : Tup ⊕ CS => Stp (fun t : Tup => l.length - (nT t).toNat) (fun t : Tup => ∃ n : Nat, nT t = (n : Int) ∧ n ≤ l.length ∧ ∃ T, P (unT c t) n T ∧ T ≤ at_ ∧ ∀ x ∈ l.drop n, T < x.At) (fun r => ∃ n, n ≤ l.length ∧ R r n) (a1, a2, a3, a4, a5, a6, a7, a8, a9, (n : Int)) r) (b1, b2, b3, b4, b5, b6, b7, b8, b9, (k : Int))) := by
          intro hy hnk
          unfold campaign_state_until_j2
          rw [if_neg (by simp)]
          refine Ok.inr ?_
          unfold campaign_state_until_k3
          rw [hc]
          refine Ok.bind (h3 (unT c (b1, b2, b3, b4, b5, b6, b7, b8, b9, (k : Int))) k x.At rfl q4 hy ha) (fun r hr => ?_)
          have hre := same_eq hr.1
          unfold unT at hre
          simp only at hre
          refine Ok.ret ⟨⟨k, rfl, q3, x.At, ?_, ha, hy⟩, ?_⟩
          · unfold unT; simp only; rw [hre]; exact hr.2
          · unfold nT; simp only; omega
        simp only
        unfold campaign_state_until_b2
        by_cases hk : (k : Int) < l.length
        · rw [if_pos hk]
          obtain ⟨y, hy, hym, hyd⟩ := idx_lt l (i := (k : Int)) (by omega) hk
          rw [show ((k : Int)).toNat = k by omega, show ((k : Int) + 1).toNat = k + 1 by omega] at hyd
          have hyg : l[k]? = some y := by have := (idx_some hy).2.2; rwa [Int.toNat_natCast] at this
          rw [hy]
          simp only [Option.bind_some]
          by_cases he : y.At = x.At
          · unfold campaign_state_until_j2
            rw [if_pos (by simpa using he), hy, hc]
            simp only [Option.bind_some]
            refine Ok.bind (h2 (unT c (b1, b2, b3, b4, b5, b6, b7, b8, b9, (k : Int))) k y x.At rfl q4 hyg he ha) (fun r hr => ?_)
            have wk : w64 ((k : Int) + 1) = ((k + 1 : Nat) : Int) := by rw [w64_in] <;> omega
            rw [wk]
            refine Ok.ret ⟨⟨k + 1, rfl, by omega, by omega, ?_⟩, ?_⟩
            · have : unT c (r.of_, r.ar0, r.wave_, r.open_, r.ends_, r.fails_, r.begins_, r.stopped_, r.next_, ((k + 1 : Nat) : Int)) = r := by
                unfold unT; simp only; rw [← hr.1]
              rw [this]; exact hr.2
            · unfold nT; simp only; omega
          · rw [decide_eq_false he]
            have hkn : n < k := by
              rcases Nat.lt_or_ge n k with h | h
              · exact h
              · obtain rfl : k = n := by omega
                rw [hxg] at hyg
                exact absurd (by rw [Option.some.inj hyg]) he
            have hxy : x.At ≤ y.At := by
              refine hsd y ?_
              obtain ⟨z, rfl⟩ : ∃ z, k = n + 1 + z := ⟨k - (n + 1), by omega⟩
              refine List.mem_of_getElem? (i := z) ?_
              rw [List.getElem?_drop]; exact hyg
            refine fin (fun z hz => ?_) hkn
            rw [hyd] at hz
            have hsk := List.Pairwise.drop (i := k) hs
            rw [hyd, List.pairwise_cons] at hsk
            rcases List.mem_cons.1 hz with rfl | hz
            · omega
            · have := hsk.1 z hz; omega
        · rw [if_neg hk]
          have hkl : k = l.length := by omega
          refine fin (fun z hz => ?_) (by omega)
          rw [List.drop_of_length_le (by omega)] at hz
          cases hz
      · rw [decide_eq_false ha]
        refine hk4 (fun y hy => ?_)
        rw [hd] at hy
        rcases List.mem_cons.1 hy with rfl | hy
        · omega
        · have := hsd y hy; omega
    · rw [if_neg hn]
      refine hk4 (fun y hy => ?_)
      rw [List.drop_of_length_le (by omega)] at hy
      cases hy
  refine key _ rfl ?_
  unfold unT
  rw [← hc]
theorem crs_take (c : Campaign) (d : DeviceS) (l : List MarkS) (n : Nat) (at_ : Int) (h1 : ∀ x ∈ l.take n, x.At ≤ at_) (h2 : ∀ x ∈ l.drop n, at_ < x.At) : crs c (l.take n) d = stOf c d l at_ := by
  unfold crs stOf
  have e : l.filter (relA c d.Key at_) = (l.take n).filter (relM c d.Key) := by
    conv => lhs; rw [← List.take_append_drop n l, List.filter_append]
    have z : (l.drop n).filter (relA c d.Key at_) = [] := by
      rw [List.filter_eq_nil_iff]
      intro x hx
      have := h2 x hx
      unfold relA
      simp only [Bool.and_eq_true, decide_eq_true_eq]
      omega
    rw [z, List.append_nil]
    refine List.filter_congr (fun x hx => ?_)
    have := h1 x hx
    unfold relA relM
    rw [decide_eq_true this, Bool.and_true]
  rw [e]
/-! checks -/
theorem scanD_R : ∀ {l : List DeviceS} {p : Option DeviceS}, scanC devStep p l = 0 → (∀ d ∈ l, keyB d.Key = true) ∧ l.Pairwise (fun a b => Lib.compareBytes a.Key b.Key < 0) ∧ ∀ q, p = some q → ∀ d ∈ l, Lib.compareBytes q.Key d.Key < 0
  | [], p, _ => ⟨by simp, List.Pairwise.nil, by simp⟩
  | d :: r, p, h => by
    simp only [scanC] at h
    split at h
    · rename_i h0
      obtain ⟨i1, i2, i3⟩ := scanD_R h
      have hd : ¬ kbad d ∧ devBad p d = false := by
        unfold devStep at h0
        split at h0
        · cases h0
        · rename_i hk
          split at h0
          · cases h0
          · rename_i hb; exact ⟨hk, by simpa using hb⟩
      have hk : keyB d.Key = true := by
        cases e : keyB d.Key
        · exact absurd (Or.inl e) hd.1
        · rfl
      refine ⟨fun x hx => ?_, List.pairwise_cons.2 ⟨fun x hx => i3 d rfl x hx, i2⟩, fun q hq x hx => ?_⟩
      · rcases List.mem_cons.1 hx with rfl | hx
        · exact hk
        · exact i1 x hx
      · subst hq
        have hb := hd.2
        unfold devBad at hb
        simp only at hb
        have hlt : Lib.compareBytes q.Key d.Key < 0 := by
          rw [less_iff, beq_cmp, Bool.or_eq_false_iff] at hb
          have b1 := of_decide_eq_false hb.1
          have b2 := of_decide_eq_false hb.2
          have := cmpB_neg q.Key d.Key
          omega
        rcases List.mem_cons.1 hx with rfl | hx
        · exact hlt
        · exact cmpB_3.tr hlt (i3 d rfl x hx)
    · exact absurd h ‹_›
theorem chkD_R {fl : List DeviceS} (h : chkD fl = 0) : FRight fl ∧ (fl.length : Int) ≤ 500 := by
  unfold chkD at h
  split at h
  · cases h
  · obtain ⟨h1, h2, _⟩ := scanD_R h
    refine ⟨⟨h1, ?_⟩, by omega⟩
    unfold List.Nodup
    rw [List.pairwise_map]
    refine h2.imp (fun {a b} hab he => ?_)
    rw [he, cmpB_self] at hab
    omega
structure MRight (x : MarkS) : Prop where
  mom : 0 ≤ x.At ∧ x.At ≤ 345686399999
  kind : 1 ≤ x.Kind ∧ x.Kind ≤ 5
theorem scanM_R : ∀ {l : List MarkS} {p : Option MarkS}, scanC markStep p l = 0 → (∀ x ∈ l, MRight x) ∧ l.Pairwise (fun a b => mO a b < 0) ∧ ∀ q, p = some q → ∀ x ∈ l, mO q x < 0
  | [], p, _ => ⟨by simp, List.Pairwise.nil, by simp⟩
  | d :: r, p, h => by
    simp only [scanC] at h
    split at h
    · rename_i h0
      obtain ⟨i1, i2, i3⟩ := scanM_R h
      unfold markStep at h0
      split at h0
      · rename_i hb; exact absurd h0 hb
      · rename_i hb
        have hb := Classical.not_not.1 hb
        have hd : MRight d := by
          unfold markBad at hb
          split at hb
          · cases hb
          · rename_i a1
            split at hb
            · cases hb
            · split at hb
              · cases hb
              · rename_i a3
                have a1 : momB d.At = true := by simpa using a1
                unfold momB at a1
                simp only [Bool.and_eq_true, decide_eq_true_eq] at a1
                exact ⟨a1, by omega⟩
        refine ⟨fun x hx => ?_, List.pairwise_cons.2 ⟨fun x hx => i3 d rfl x hx, i2⟩, fun q hq x hx => ?_⟩
        · rcases List.mem_cons.1 hx with rfl | hx
          · exact hd
          · exact i1 x hx
        · subst hq
          simp only at h0
          have hlt : mO q d < 0 := by
            split at h0
            · cases h0
            · have := mO_3.neg q d; omega
          rcases List.mem_cons.1 hx with rfl | hx
          · exact hlt
          · exact mO_3.tr hlt (i3 d rfl x hx)
    · exact absurd h ‹_›
theorem mO_At {a b : MarkS} (h : mO a b < 0) : a.At ≤ b.At := by
  unfold mO at h
  by_cases h0 : cmpI a.At b.At ≠ 0
  · rw [if_pos h0] at h
    unfold cmpI at h
    split at h
    · omega
    · split at h <;> omega
  · have := cmpI_z.1 (Classical.not_not.1 h0); omega
theorem chkM_R {l : List MarkS} (h : chkM l = 0) : (∀ x ∈ l, MRight x) ∧ l.Pairwise (fun a b => mO a b < 0) ∧ (l.length : Int) ≤ 3000 := by
  unfold chkM at h
  split at h
  · cases h
  · obtain ⟨h1, h2, _⟩ := scanM_R h
    exact ⟨h1, h2, by omega⟩
def momF (at_ : Int) : Int := if momB at_ = true then 0 else 1
noncomputable def fltV (r : Int) (fl : List DeviceS) (l : List MarkS) (at_ : Int) : Int := orL [r, chkD fl, chkM l, momF at_]
theorem fault_eq {c : Campaign} {r : Int} (hr : campaign_CheckCampaign c = some r) (fl : List DeviceS) (l : List MarkS) (at_ : Int) : campaign_fault c fl l at_ = some (fltV r fl l at_) := by
  unfold campaign_fault
  rw [hr, CheckFleet_eq, CheckMarks_eq]
  simp only [Option.bind_some]
  rw [show base_First [r, chkD fl, chkM l] = some (orL [r, chkD fl, chkM l]) from gOr_eq _ (by simp)]
  simp only [Option.bind_some]
  unfold campaign_fault_j1 campaign_fault_j2 fltV momF
  rw [Moment_eq, show (decide (0 ≤ at_) && decide (at_ ≤ 345686399999)) = momB at_ from rfl]
  by_cases h1 : r = 0
  · by_cases h2 : chkD fl = 0
    · by_cases h3 : chkM l = 0
      · simp only [orL, h1, h2, h3]
        cases momB at_ <;> simp
      · simp [orL, h1, h2, h3]
    · simp [orL, h1, h2]
  · simp [orL, h1]
theorem errs_eq (r : Int) (fl : List DeviceS) (l : List MarkS) (at_ : Int) : L_errs [r, chkD fl, chkM l, L_momentFault at_] = some (fltV r fl l at_) := by
  have e : L_momentFault at_ = momF at_ := by
    unfold L_momentFault L_when momF
    rw [QMoment_eq, show (decide (0 ≤ at_) && decide (at_ ≤ 345686399999)) = momB at_ from rfl]
    cases momB at_ <;> rfl
  rw [e]
  exact gOr_eq _ (by simp)
theorem flt_0 {r : Int} {fl : List DeviceS} {l : List MarkS} {at_ : Int} (h : fltV r fl l at_ = 0) : r = 0 ∧ chkD fl = 0 ∧ chkM l = 0 ∧ 0 ≤ at_ := by
  unfold fltV at h
  simp only [orL] at h
  by_cases h1 : r = 0
  · by_cases h2 : chkD fl = 0
    · by_cases h3 : chkM l = 0
      · refine ⟨h1, h2, h3, ?_⟩
        simp only [h1, h2, h3] at h
        unfold momF at h
        cases hm : momB at_
        · simp [hm] at h
        · unfold momB at hm
          simp only [Bool.and_eq_true, decide_eq_true_eq] at hm
          exact hm.1
      · simp [h1, h2, h3] at h
    · simp [h1, h2] at h
  · simp [h1] at h
/-! the law -/
end Go.Beacon

/- Waves: what is counted of them while marks are followed; the moment at which the first fails. No program in sight. -/
set_option linter.unusedVariables false
set_option linter.unusedSimpArgs false
namespace Go.Beacon
open Go Go.Eng

theorem snoc_ind {α : Type} {P : List α → Prop} (h0 : P []) (h : ∀ l x, P l → P (l ++ [x])) : ∀ l, P l := by
  intro l
  rw [← l.reverse_reverse]
  induction l.reverse with
  | nil => exact h0
  | cons x r ih => rw [List.reverse_cons]; exact h _ x ih
def endB (m : MarkS) : Bool := decide (m.Kind = 3) || decide (m.Kind = 4)
/-- A mark is followed by a device. -/
noncomputable def qD (c : Campaign) (dn : List MarkS) (m : MarkS) (d : DeviceS) : Bool := relM c d.Key m && okC (crs c dn d) m
noncomputable def hitB (c : Campaign) (fl : List DeviceS) (dn : List MarkS) (w : Nat) (m : MarkS) : Bool := endB m && fl.any (fun d => decide (wvN c d.Key = w) && qD c dn m d)
noncomputable def stepE (c : Campaign) (fl : List DeviceS) (w : Nat) (s : List MarkS × List MarkS) (m : MarkS) : List MarkS × List MarkS := (s.1 ++ [m], if hitB c fl s.1 w m = true then s.2 ++ [m] else s.2)
noncomputable def EL (c : Campaign) (fl : List DeviceS) (w : Nat) (dn : List MarkS) : List MarkS := (dn.foldl (stepE c fl w) ([], [])).2
theorem EL_fst (c : Campaign) (fl : List DeviceS) (w : Nat) : ∀ dn : List MarkS, (dn.foldl (stepE c fl w) ([], [])).1 = dn :=
  snoc_ind rfl (fun l x h => by rw [List.foldl_append]; simp only [List.foldl_cons, List.foldl_nil]; unfold stepE at h ⊢; rw [h])
theorem EL_snoc (c : Campaign) (fl : List DeviceS) (w : Nat) (dn : List MarkS) (m : MarkS) : EL c fl w (dn ++ [m]) = if hitB c fl dn w m = true then EL c fl w dn ++ [m] else EL c fl w dn := by
  unfold EL
  rw [List.foldl_append]
  simp only [List.foldl_cons, List.foldl_nil]
  have e : ∀ S : List MarkS × List MarkS, (stepE c fl w S m).2 = if hitB c fl S.1 w m = true then S.2 ++ [m] else S.2 := fun _ => rfl
  rw [e, EL_fst]
def badN (E : List MarkS) : Nat := (E.filter (fun m => decide (m.Kind = 4))).length
def cndB (c : Campaign) (w : Nat) (E : List MarkS) : Bool := decide ((wavG c w).Least ≤ (E.length : Int)) && decide (w64 ((wavG c w).Fails * (E.length : Int)) < w64 (1000 * (badN E : Int)))
noncomputable def newB (c : Campaign) (fl : List DeviceS) (dn : List MarkS) (m : MarkS) : Bool := (List.range c.Waves.length).any (fun w => hitB c fl dn w m && cndB c w (EL c fl w (dn ++ [m])))
noncomputable def stepS (c : Campaign) (fl : List DeviceS) (s : List MarkS × Int) (m : MarkS) : List MarkS × Int := (s.1 ++ [m], if s.2 < 0 ∧ newB c fl s.1 m = true then m.At else s.2)
noncomputable def SA (c : Campaign) (fl : List DeviceS) (dn : List MarkS) : Int := (dn.foldl (stepS c fl) ([], -1)).2
theorem SA_fst (c : Campaign) (fl : List DeviceS) : ∀ dn : List MarkS, (dn.foldl (stepS c fl) ([], -1)).1 = dn :=
  snoc_ind rfl (fun l x h => by rw [List.foldl_append]; simp only [List.foldl_cons, List.foldl_nil]; unfold stepS at h ⊢; rw [h])
theorem SA_snoc (c : Campaign) (fl : List DeviceS) (dn : List MarkS) (m : MarkS) : SA c fl (dn ++ [m]) = if SA c fl dn < 0 ∧ newB c fl dn m = true then m.At else SA c fl dn := by
  unfold SA
  rw [List.foldl_append]
  simp only [List.foldl_cons, List.foldl_nil]
  have e : ∀ S : List MarkS × Int, (stepS c fl S m).2 = if S.2 < 0 ∧ newB c fl S.1 m = true then m.At else S.2 := fun _ => rfl
  rw [e, SA_fst]
/-- How many devices of a wave are neither ready nor out. -/
noncomputable def opP (c : Campaign) (dn : List MarkS) (w : Nat) (d : DeviceS) : Bool := decide (wvN c d.Key = w) && !ovC c (crs c dn d)
noncomputable def cntO (c : Campaign) (fl : List DeviceS) (dn : List MarkS) (w : Nat) : Nat := (fl.filter (opP c dn w)).length
structure SX (c : Campaign) (fl : List DeviceS) (s : CS) (dn : List MarkS) : Prop extends SI c fl s dn where
  opn : ∀ w, w < c.Waves.length → s.open_.getD w 0 = (cntO c fl dn w : Int)
  en : ∀ w, w < c.Waves.length → s.ends_.getD w 0 = ((EL c fl w dn).length : Int)
  fa : ∀ w, w < c.Waves.length → s.fails_.getD w 0 = (badN (EL c fl w dn) : Int)
  sp : s.stopped_ = SA c fl dn
theorem incAt_get {l : List Int} {k w : Nat} {d : Int} (hk : k < l.length) : (incAt l k d).getD w 0 = if k = w then w64 (l.getD k 0 + d) else l.getD w 0 := by
  unfold incAt
  rw [List.getD_eq_getElem?_getD, List.getElem?_set]
  by_cases e : k = w
  · rw [if_pos e, if_pos e, if_pos hk]; rfl
  · rw [if_neg e, if_neg e, List.getD_eq_getElem?_getD]
theorem filter_one {α : Type} {p p' : α → Bool} : ∀ (l : List α) (i : Nat) (d : α), l[i]? = some d → (∀ j d', j ≠ i → l[j]? = some d' → p' d' = p d') → (l.filter p').length + (if p d = true then 1 else 0) = (l.filter p).length + (if p' d = true then 1 else 0)
  | [], i, d, h, _ => by simp at h
  | x :: r, 0, d, h, hr => by
    simp at h; subst h
    have e : r.filter p' = r.filter p := by
      refine List.filter_congr (fun y hy => ?_)
      obtain ⟨j, hj⟩ := List.getElem?_of_mem hy
      exact hr (j + 1) y (by omega) (by simpa using hj)
    rw [List.filter_cons, List.filter_cons, e]
    by_cases a : p x = true <;> by_cases b : p' x = true <;> simp [a, b]
  | x :: r, i + 1, d, h, hr => by
    have ih := filter_one r i d (by simpa using h) (fun j d' hj hd => hr (j + 1) d' (by omega) (by simpa using hd))
    have e := hr 0 x (by omega) rfl
    rw [List.filter_cons, List.filter_cons, e]
    by_cases a : p x = true
    · rw [if_pos a, if_pos a, List.length_cons, List.length_cons]; omega
    · rw [if_neg a, if_neg a]; exact ih
theorem relM_one {c : Campaign} {fl : List DeviceS} (hf : FRight fl) {m : MarkS} {i j : Nat} {d d' : DeviceS} (hi : fl[i]? = some d) (hj : fl[j]? = some d') (h : relM c d.Key m = true) (h' : relM c d'.Key m = true) : j = i := by
  unfold relM at h h'
  simp only [Bool.and_eq_true, decide_eq_true_eq] at h h'
  exact nod_inj hf.nod j i d' d hj hi (by rw [← h'.1, h.1])
theorem hit_is {c : Campaign} {fl : List DeviceS} (hf : FRight fl) {dn : List MarkS} {m : MarkS} {i : Nat} {d : DeviceS} (hi : fl[i]? = some d) (h : relM c d.Key m = true) (w : Nat) : hitB c fl dn w m = (endB m && (decide (wvN c d.Key = w) && okC (crs c dn d) m)) := by
  unfold hitB qD
  congr 1
  rw [Bool.eq_iff_iff, List.any_eq_true]
  constructor
  · rintro ⟨d', hd', e⟩
    obtain ⟨j, hj⟩ := List.getElem?_of_mem hd'
    simp only [Bool.and_eq_true, decide_eq_true_eq] at e ⊢
    obtain rfl := relM_one hf hi hj h e.2.1
    rw [hi] at hj
    obtain rfl := Option.some.inj hj
    exact ⟨e.1, e.2.2⟩
  · intro e
    simp only [Bool.and_eq_true, decide_eq_true_eq] at e
    exact ⟨d, List.mem_of_getElem? hi, by simp [e.1, e.2, h]⟩
theorem hit_no {c : Campaign} {fl : List DeviceS} {dn : List MarkS} {m : MarkS} (h : ∀ d ∈ fl, qD c dn m d = false) (w : Nat) : hitB c fl dn w m = false := by
  unfold hitB
  rw [Bool.and_eq_false_iff]
  right
  rw [List.any_eq_false]
  intro d hd
  rw [h d hd]; simp
theorem new_no {c : Campaign} {fl : List DeviceS} {dn : List MarkS} {m : MarkS} (h : ∀ w, hitB c fl dn w m = false) : newB c fl dn m = false := by
  unfold newB
  rw [List.any_eq_false]
  intro w _
  rw [h w]; simp
theorem same_SX {c : Campaign} {fl : List DeviceS} {s s' : CS} {dn : List MarkS} {m : MarkS} (h : SX c fl s dn) (hS : SI c fl s' (dn ++ [m])) (hc : ∀ d ∈ fl, crs c (dn ++ [m]) d = crs c dn d) (hn : ∀ w, hitB c fl dn w m = false)
    (e1 : s'.open_ = s.open_) (e2 : s'.ends_ = s.ends_) (e3 : s'.fails_ = s.fails_) (e4 : s'.stopped_ = s.stopped_) : SX c fl s' (dn ++ [m]) := by
  refine ⟨hS, fun w hw => ?_, fun w hw => ?_, fun w hw => ?_, ?_⟩
  · rw [e1, h.opn w hw]
    unfold cntO
    have e : fl.filter (opP c (dn ++ [m]) w) = fl.filter (opP c dn w) := List.filter_congr (fun d hd => by unfold opP; rw [hc d hd])
    rw [e]
  · rw [e2, EL_snoc, hn w]; exact h.en w hw
  · rw [e3, EL_snoc, hn w]; exact h.fa w hw
  · rw [e4, SA_snoc, new_no hn, if_neg (by simp)]; exact h.sp
theorem EL_len (c : Campaign) (fl : List DeviceS) (w : Nat) : ∀ dn : List MarkS, (EL c fl w dn).length ≤ dn.length :=
  snoc_ind (by unfold EL; simp) (fun l x h => by
    rw [EL_snoc]; split
    · simp; exact h
    · simp; omega)
theorem bad_len (E : List MarkS) : badN E ≤ E.length := List.length_filter_le _ _
theorem bad_snoc (E : List MarkS) (m : MarkS) : badN (E ++ [m]) = badN E + (if m.Kind = 4 then 1 else 0) := by
  unfold badN
  rw [List.filter_append, List.length_append, List.filter_cons]
  by_cases h : m.Kind = 4
  · rw [if_pos (by simpa using h), if_pos h]; rfl
  · rw [if_neg (by simpa using h), if_neg h]; rfl
theorem mark_SX {c : Campaign} {fl : List DeviceS} {s : CS} {dn : List MarkS} (hc : CRight c) (hf : FRight fl) (hl : (fl.length : Int) ≤ 100000) (hd : (dn.length : Int) ≤ 100000) (h : SX c fl s dn) (m : MarkS) : Ok (campaign_state_mark s m) (fun r => SX c fl r (dn ++ [m]) ∧ r.begins_ = s.begins_ ∧ r.next_ = s.next_) := by
  obtain ⟨r, r1, r2⟩ := mark_SI hc hf h.toSI m
  rcases mark_is hc hf h.toSI m with ⟨e, hr⟩ | ⟨i, d, hi, hr, e⟩
  · rw [e] at r1
    obtain rfl := Option.some.inj r1
    have hq : ∀ d ∈ fl, qD c dn m d = false := fun d hd => by unfold qD; rw [hr d hd]; rfl
    exact ⟨s, e, same_SX h r2 (fun d hd => by rw [crs_snoc, hr d hd]; rfl) (hit_no hq) rfl rfl rfl rfl, rfl, rfl⟩
  · obtain ⟨k1, k2, k3, k4, k5, k6, k7, k8, k9⟩ := markS_keep s i (wvN c d.Key) (crs c dn d) m
    rw [e] at r1
    obtain rfl := Option.some.inj r1
    refine ⟨_, e, ?_, k5, k6⟩
    have hm := List.mem_of_getElem? hi
    have hw := (wave_ok c hc d.Key (hf.key d hm)).2
    have hhit := hit_is (dn := dn) hf hi hr
    have hcs : ∀ d', d' ∈ fl → crs c (dn ++ [m]) d' = if d' = d then fol (crs c dn d) m else crs c dn d' := by
      intro d' hd'
      rw [crs_snoc]
      by_cases e : d' = d
      · rw [if_pos e, e, if_pos hr]
      · rw [if_neg e, if_neg]
        intro hr'
        obtain ⟨j, hj⟩ := List.getElem?_of_mem hd'
        have ej := relM_one hf hi hj hr hr'
        rw [ej, hi] at hj
        exact e (Option.some.inj hj).symm
    by_cases hok : okC (crs c dn d) m = true
    · have hfol : fol (crs c dn d) m = upC (crs c dn d) m := by unfold fol; rw [if_pos hok]
      have hopn : ∀ w, w < c.Waves.length → (opnS s.c_ s.open_ (wvN c d.Key) (crs c dn d) (upC (crs c dn d) m)).getD w 0 = (cntO c fl (dn ++ [m]) w : Int) := by
        intro w hw'
        have hone := filter_one (p := opP c dn w) (p' := opP c (dn ++ [m]) w) fl i d hi (fun j d' hj hd' => by
          unfold opP
          rw [hcs d' (List.mem_of_getElem? hd'), if_neg]
          intro e; subst e
          exact hj (nod_inj hf.nod j i d' d' hd' hi rfl))
        have hp : opP c dn w d = (decide (wvN c d.Key = w) && !ovC c (crs c dn d)) := rfl
        have hp' : opP c (dn ++ [m]) w d = (decide (wvN c d.Key = w) && !ovC c (upC (crs c dn d) m)) := by unfold opP; rw [hcs d hm, if_pos rfl, hfol]
        have hb1 : cntO c fl dn w ≤ fl.length := List.length_filter_le _ _
        have hb2 : cntO c fl (dn ++ [m]) w ≤ fl.length := List.length_filter_le _ _
        have h0 := h.opn w hw'
        unfold cntO at hb1 hb2 h0 ⊢
        have hlo : wvN c d.Key < s.open_.length := by rw [h.open_]; exact hw
        unfold opnS
        rw [h.c_]
        by_cases hwk : wvN c d.Key = w
        · rw [hp, hp', hwk, decide_eq_true rfl, Bool.true_and, Bool.true_and] at hone
          rw [hwk] at hlo ⊢
          cases a : ovC c (crs c dn d) <;> cases b : ovC c (upC (crs c dn d) m) <;> simp only [a, b] at hone ⊢ <;> simp at hone
          · rw [if_neg (by simp), h0]; omega
          · rw [if_pos (by simp), if_pos trivial, incAt_get hlo, if_pos rfl, h0, w64_in (by omega) (by omega)]; omega
          · rw [if_pos (by simp), if_neg (by simp), incAt_get hlo, if_pos rfl, h0, w64_in (by omega) (by omega)]; omega
          · rw [if_neg (by simp), h0]; omega
        · rw [hp, hp', decide_eq_false hwk, Bool.false_and, Bool.false_and] at hone
          simp at hone
          rw [hone]
          split
          · split <;> rw [incAt_get hlo, if_neg hwk] <;> exact h0
          · exact h0
      by_cases hk : m.Kind ≠ 3 ∧ m.Kind ≠ 4
      · have hend : endB m = false := by unfold endB; simp [hk]
        have hno : ∀ w, hitB c fl dn w m = false := fun w => by rw [hhit w, hend]; rfl
        have hS : markS s i (wvN c d.Key) (crs c dn d) m = { s with open_ := opnS s.c_ s.open_ (wvN c d.Key) (crs c dn d) (upC (crs c dn d) m), ar0 := s.ar0.set i (fol (crs c dn d) m) } := by
          unfold markS; rw [if_pos hok, if_pos hk]
        rw [hS] at r2 ⊢
        refine ⟨r2, hopn, fun w hw' => ?_, fun w hw' => ?_, ?_⟩
        · rw [EL_snoc, hno w]; exact h.en w hw'
        · rw [EL_snoc, hno w]; exact h.fa w hw'
        · rw [SA_snoc, new_no hno, if_neg (by simp)]; exact h.sp
      · have hend : endB m = true := by unfold endB; simp; omega
        have hS : markS s i (wvN c d.Key) (crs c dn d) m = { s with open_ := opnS s.c_ s.open_ (wvN c d.Key) (crs c dn d) (upC (crs c dn d) m), ends_ := incAt s.ends_ (wvN c d.Key) 1, fails_ := if m.Kind = 4 then incAt s.fails_ (wvN c d.Key) 1 else s.fails_, stopped_ := stpS s.c_ (wvN c d.Key) (incAt s.ends_ (wvN c d.Key) 1) (if m.Kind = 4 then incAt s.fails_ (wvN c d.Key) 1 else s.fails_) s.stopped_ m, ar0 := s.ar0.set i (fol (crs c dn d) m) } := by
          unfold markS; rw [if_pos hok, if_neg hk]
        have hh : ∀ w, hitB c fl dn w m = decide (wvN c d.Key = w) := fun w => by rw [hhit w, hend, hok]; simp
        have hel := EL_len c fl (wvN c d.Key) dn
        have hbl := bad_len (EL c fl (wvN c d.Key) dn)
        have hle : wvN c d.Key < s.ends_.length := by rw [h.ends_]; exact hw
        have hlf : wvN c d.Key < s.fails_.length := by rw [h.fails_]; exact hw
        have hen : ∀ w, w < c.Waves.length → (incAt s.ends_ (wvN c d.Key) 1).getD w 0 = ((EL c fl w (dn ++ [m])).length : Int) := by
          intro w hw'
          rw [incAt_get hle, EL_snoc, hh w]
          by_cases e : wvN c d.Key = w
          · rw [if_pos e, decide_eq_true e, if_pos rfl, h.en _ hw, w64_in (by omega) (by omega), ← e]; simp
          · rw [if_neg e, decide_eq_false e, if_neg Bool.false_ne_true]; exact h.en w hw'
        have hfa : ∀ w, w < c.Waves.length → (if m.Kind = 4 then incAt s.fails_ (wvN c d.Key) 1 else s.fails_).getD w 0 = (badN (EL c fl w (dn ++ [m])) : Int) := by
          intro w hw'
          rw [EL_snoc, hh w]
          by_cases e : wvN c d.Key = w
          · rw [decide_eq_true e, if_pos rfl, bad_snoc]
            by_cases h4 : m.Kind = 4
            · rw [if_pos h4, if_pos h4, incAt_get hlf, if_pos e, h.fa _ hw, w64_in (by omega) (by omega), ← e]; simp
            · rw [if_neg h4, if_neg h4, h.fa w hw']; simp
          · rw [decide_eq_false e, if_neg Bool.false_ne_true]
            split
            · rw [incAt_get hlf, if_neg e]; exact h.fa w hw'
            · exact h.fa w hw'
        rw [hS] at r2 ⊢
        refine ⟨r2, hopn, hen, hfa, ?_⟩
        simp only
        unfold stpS
        rw [hen _ hw, hfa _ hw, h.c_, h.sp, SA_snoc]
        have hnew : newB c fl dn m = cndB c (wvN c d.Key) (EL c fl (wvN c d.Key) (dn ++ [m])) := by
          unfold newB
          rw [Bool.eq_iff_iff, List.any_eq_true]
          constructor
          · rintro ⟨w, _, e⟩
            rw [hh w] at e
            simp only [Bool.and_eq_true, decide_eq_true_eq] at e
            rw [e.1]; exact e.2
          · intro e
            exact ⟨wvN c d.Key, List.mem_range.2 hw, by rw [hh]; simp [e]⟩
        rw [hnew]
        unfold cndB
        simp only [Bool.and_eq_true, decide_eq_true_eq]
    · have hfol : fol (crs c dn d) m = crs c dn d := by unfold fol; rw [if_neg hok]
      have hS : markS s i (wvN c d.Key) (crs c dn d) m = { s with ar0 := s.ar0.set i (fol (crs c dn d) m) } := by unfold markS; rw [if_neg hok]
      have hok' : okC (crs c dn d) m = false := by simpa using hok
      rw [hS] at r2 ⊢
      exact same_SX h r2 (fun d' hd' => by rw [hcs d' hd', hfol]; split <;> simp_all) (fun w => by rw [hhit w, hok']; simp) rfl rfl rfl rfl
theorem newState_SX (c : Campaign) (fl : List DeviceS) (hc : CRight c) (hf : FRight fl) (hl : (fl.length : Int) ≤ 100000) : Ok (campaign_newState c fl) (fun s => SX c fl s [] ∧ s.begins_ = [] ∧ s.next_ = c.At) := by
  refine (newState_SI c fl hc hf hl).mono ?_
  rintro s ⟨h0, h1, h2, h3, h4, h5, h6⟩
  have hrep : ∀ w, (List.replicate c.Waves.length (0 : Int)).getD w 0 = 0 := by
    intro w
    rw [List.getD_eq_getElem?_getD, List.getElem?_replicate]
    split <;> rfl
  refine ⟨⟨h0, fun w hw => ?_, fun w hw => ?_, fun w hw => ?_, ?_⟩, h4, h6⟩
  · rw [h1]
    have key : ∀ l : List DeviceS, (∀ d ∈ l, keyB d.Key = true) → (l.length : Int) ≤ 100000 → (l.foldl (opn0 c) (List.replicate c.Waves.length 0)).getD w 0 = ((l.filter (opP c [] w)).length : Int) := by
      refine snoc_ind (fun _ _ => hrep w) (fun l d ih hk hl => ?_)
      have ih := ih (fun x hx => hk x (List.mem_append_left _ hx)) (by simp at hl; omega)
      have hll : ((l.foldl (opn0 c) (List.replicate c.Waves.length 0))).length = c.Waves.length := by rw [opn0_len]; simp
      have hle := List.length_filter_le (opP c [] w) l
      rw [List.foldl_append, List.filter_append, List.filter_cons]
      simp only [List.foldl_cons, List.foldl_nil]
      have hp : opP c [] w d = (decide (wvN c d.Key = w) && !decide (d.Firmware = c.Target)) := by
        unfold opP ovC
        rw [show crs c [] d = x0 d from rfl]
        unfold x0
        simp
      have hkw := (wave_ok c hc d.Key (hk d (by simp))).2
      rw [hp]
      simp at hl
      by_cases a : d.Firmware = c.Target
      · rw [show opn0 c (l.foldl (opn0 c) (List.replicate c.Waves.length 0)) d = l.foldl (opn0 c) (List.replicate c.Waves.length 0) from if_pos (decide_eq_true a), ih]; simp [a]
      · rw [show opn0 c (l.foldl (opn0 c) (List.replicate c.Waves.length 0)) d = incAt (l.foldl (opn0 c) (List.replicate c.Waves.length 0)) (wvN c d.Key) 1 from if_neg (by simpa using a), incAt_get (by rw [hll]; exact hkw)]
        by_cases b : wvN c d.Key = w
        · rw [if_pos b, b, ih, w64_in (by omega) (by omega)]; simp [a]
        · rw [if_neg b, ih]; simp [a, b]
    exact key fl hf.key hl
  · rw [h2, hrep]; rfl
  · rw [h3, hrep]; rfl
  · rw [h5]; rfl
end Go.Beacon

/- Waves: the reference's moments of failing. No program in sight. -/
set_option linter.unusedVariables false
set_option linter.unusedSimpArgs false
namespace Go.Beacon
open Go Go.Eng

noncomputable def FM (c : Campaign) (dn : List MarkS) (d : DeviceS) : List MarkS := (dn.filter (relM c d.Key)).foldl accM []
theorem last_fold : ∀ (ms A : List MarkS) (x : Campaign_course), (x.Standing.Kind, x.offered_) = lastMk A → ((ms.foldl fol x).Standing.Kind, (ms.foldl fol x).offered_) = lastMk (ms.foldl accM A)
  | [], A, x, h => h
  | m :: r, A, x, h => by
    rw [List.foldl_cons, List.foldl_cons]
    refine last_fold r _ _ ?_
    have e : okC x m = okK (lastMk A).1 (lastMk A).2 m := by unfold okC; rw [← h]
    unfold fol accM
    rw [e]
    split
    · unfold lastMk; rw [List.getLast?_concat]; rfl
    · exact h
theorem crs_last (c : Campaign) (dn : List MarkS) (d : DeviceS) : ((crs c dn d).Standing.Kind, (crs c dn d).offered_) = lastMk (FM c dn d) := last_fold _ [] (x0 d) rfl
theorem FM_snoc (c : Campaign) (dn : List MarkS) (m : MarkS) (d : DeviceS) : FM c (dn ++ [m]) d = if qD c dn m d = true then FM c dn d ++ [m] else FM c dn d := by
  have hl := crs_last c dn d
  have e : okC (crs c dn d) m = okK (lastMk (FM c dn d)).1 (lastMk (FM c dn d)).2 m := by unfold okC; rw [← hl]
  unfold qD
  conv => lhs; unfold FM
  rw [List.filter_append, List.filter_cons, List.foldl_append]
  by_cases h : relM c d.Key m = true
  · rw [if_pos h, h, Bool.true_and, e]; rfl
  · rw [if_neg h, if_neg (by simp [h])]; rfl
theorem FM_len (c : Campaign) (dn : List MarkS) (d : DeviceS) : (FM c dn d).length ≤ dn.length := by
  have h1 := accM_len (dn.filter (relM c d.Key)) []
  have h2 := List.length_filter_le (relM c d.Key) dn
  unfold FM; simp at h1; omega
theorem rel_take (c : Campaign) (k : Str) (l : List MarkS) (n : Nat) (at_ : Int) (h1 : ∀ x ∈ l.take n, x.At ≤ at_) (h2 : ∀ x ∈ l.drop n, at_ < x.At) : l.filter (relA c k at_) = (l.take n).filter (relM c k) := by
  conv => lhs; rw [← List.take_append_drop n l, List.filter_append]
  have z : (l.drop n).filter (relA c k at_) = [] := by
    rw [List.filter_eq_nil_iff]
    intro x hx
    have := h2 x hx
    unfold relA
    simp only [Bool.and_eq_true, decide_eq_true_eq]
    omega
  rw [z, List.append_nil]
  refine List.filter_congr (fun x hx => ?_)
  have := h1 x hx
  unfold relA relM
  rw [decide_eq_true this, Bool.and_true]
theorem Qfollowed_is (c : Campaign) (d : DeviceS) (l : List MarkS) (n : Nat) (at_ : Int) (h1 : ∀ x ∈ l.take n, x.At ≤ at_) (h2 : ∀ x ∈ l.drop n, at_ < x.At) (hl : (l.length : Int) ≤ 3000) (hK : ∀ q ∈ l, 1 ≤ q.Kind ∧ q.Kind ≤ 5) : Q_followed c d.Key l at_ = some (FM c (l.take n) d) := by
  rw [followed_eq c d.Key l at_ (by omega) hK, rel_take c d.Key l n at_ h1 h2]; rfl
theorem Qwave_ok (c : Campaign) (hc : CRight c) (k : Str) (hk : keyB k = true) : Q_WaveOf c k = some (wvN c k : Int) := by
  have h1 := keyB_lenC hc.key
  have h2 := keyB_lenC hk
  have hlr := lot_rng c k
  obtain ⟨j, j1, j2⟩ := wave_go c hc (lotV c k) hlr.2 c.Waves.length 0 0 (by omega) (by omega) hlr.1 (by rw [List.drop_zero, hc.sum]; rfl)
  have e : campaign_waveOf c k = some j := by
    unfold campaign_waveOf
    rw [lot_eq c k (by omega) (by omega)]
    exact j1
  have e2 := (wave_ok c hc k hk).1
  rw [e] at e2
  rw [← Option.some.inj e2]
  unfold Q_WaveOf
  rw [Qlot_eq c k (by omega) (by omega)]
  simp only [Option.bind_some]
  rw [show lotV c k - 0 = lotV c k by omega] at j2
  exact j2
theorem flat_snoc {α β : Type} (q : α → Bool) (g : α → List β) (m : β) : ∀ L : List α, L.Pairwise (fun a b => ¬ (q a = true ∧ q b = true)) → (L.flatMap (fun d => if q d = true then g d ++ [m] else g d)).Perm (L.flatMap g ++ (if L.any q = true then [m] else []))
  | [], _ => by simp
  | d :: r, h => by
    rw [List.pairwise_cons] at h
    have ih := flat_snoc q g m r h.2
    rw [List.flatMap_cons, List.flatMap_cons, List.any_cons]
    by_cases hd : q d = true
    · have hn : r.any q = false := by
        rw [List.any_eq_false]
        intro x hx hq
        exact h.1 x hx ⟨hd, hq⟩
      rw [hn, if_neg (by simp), List.append_nil] at ih
      rw [if_pos hd, hd, Bool.true_or, if_pos rfl, List.append_assoc, List.append_assoc]
      exact List.Perm.append_left _ (((List.perm_append_comm).trans (List.Perm.append_right _ ih)))
    · rw [if_neg hd, show (q d || r.any q) = r.any q by simp [hd], List.append_assoc]
      exact List.Perm.append_left _ ih
noncomputable def waF (c : Campaign) (fl : List DeviceS) (w : Nat) : List DeviceS := fl.filter (fun d => decide (wvN c d.Key = w))
theorem CE_perm {c : Campaign} {fl : List DeviceS} (hf : FRight fl) (w : Nat) : ∀ dn : List MarkS, (((waF c fl w).flatMap (FM c dn)).filter endB).Perm (EL c fl w dn) := by
  refine snoc_ind ?_ (fun dn m ih => ?_)
  · have : (waF c fl w).flatMap (FM c []) = [] := by
      rw [List.flatMap_eq_nil_iff]; intro x _; rfl
    rw [this]; exact List.Perm.refl _
  · have e : (FM c (dn ++ [m])) = fun d => if qD c dn m d = true then FM c dn d ++ [m] else FM c dn d := funext (fun d => FM_snoc c dn m d)
    have hp : (waF c fl w).Pairwise (fun a b => ¬ (qD c dn m a = true ∧ qD c dn m b = true)) := by
      have hn := hf.nod
      unfold List.Nodup at hn
      rw [List.pairwise_map] at hn
      unfold waF
      refine (List.Pairwise.filter _ hn).imp (fun {a b} hab hq => hab ?_)
      unfold qD relM at hq
      simp only [Bool.and_eq_true, decide_eq_true_eq] at hq
      rw [← hq.1.1.1, ← hq.2.1.1]
    rw [e]
    refine ((flat_snoc (qD c dn m) (FM c dn) m _ hp).filter endB).trans ?_
    rw [List.filter_append, EL_snoc]
    have ha : (waF c fl w).any (qD c dn m) = fl.any (fun d => decide (wvN c d.Key = w) && qD c dn m d) := by unfold waF; rw [List.any_filter]
    have hh : hitB c fl dn w m = (endB m && (waF c fl w).any (qD c dn m)) := by rw [ha]; rfl
    rw [hh]
    by_cases a : (waF c fl w).any (qD c dn m) = true
    · rw [if_pos a, a, Bool.and_true, List.filter_cons]
      split
      · exact List.Perm.append_right _ ih
      · rw [List.filter_nil, List.append_nil]; exact ih
    · rw [if_neg a, if_neg (by simp [a]), List.filter_nil, List.append_nil]; exact ih
theorem EL_sub (c : Campaign) (fl : List DeviceS) (w : Nat) : ∀ dn : List MarkS, (EL c fl w dn).Sublist dn :=
  snoc_ind (List.Sublist.refl _) (fun l x h => by
    rw [EL_snoc]; split
    · exact h.append (List.Sublist.refl _)
    · exact h.trans (List.sublist_append_left _ _))
/-! the first moment at which a wave fails -/
noncomputable def stepW (c : Campaign) (w : Nat) (s : List MarkS × Int) (m : MarkS) : List MarkS × Int := (s.1 ++ [m], if s.2 < 0 ∧ cndB c w (s.1 ++ [m]) = true then m.At else s.2)
noncomputable def SW (c : Campaign) (w : Nat) (E : List MarkS) : Int := (E.foldl (stepW c w) ([], -1)).2
theorem SW_fst (c : Campaign) (w : Nat) : ∀ dn : List MarkS, (dn.foldl (stepW c w) ([], -1)).1 = dn :=
  snoc_ind rfl (fun l x h => by rw [List.foldl_append]; simp only [List.foldl_cons, List.foldl_nil]; unfold stepW at h ⊢; rw [h])
theorem SW_snoc (c : Campaign) (w : Nat) (dn : List MarkS) (m : MarkS) : SW c w (dn ++ [m]) = if SW c w dn < 0 ∧ cndB c w (dn ++ [m]) = true then m.At else SW c w dn := by
  unfold SW
  rw [List.foldl_append]
  simp only [List.foldl_cons, List.foldl_nil]
  have e : ∀ S : List MarkS × Int, (stepW c w S m).2 = if S.2 < 0 ∧ cndB c w (S.1 ++ [m]) = true then m.At else S.2 := fun _ => rfl
  rw [e, SW_fst]
theorem SW_keep (c : Campaign) (w : Nat) (A : List MarkS) (h : 0 ≤ SW c w A) : ∀ l, SW c w (A ++ l) = SW c w A :=
  snoc_ind (by rw [List.append_nil]) (fun l x ih => by rw [← List.append_assoc, SW_snoc, ih, if_neg (by omega)])
theorem stop_scan (c : Campaign) (w : Nat) (hw : w < c.Waves.length) (Z : List MarkS) (hl : (Z.length : Int) ≤ 100000) (hm : ∀ x ∈ Z, 0 ≤ x.At) : ∀ (m n : Nat), n + m = Z.length → SW c w (Z.take n) = -1 → Q_stopOf_l2 c (w : Int) Z (badN (Z.take n) : Int) (n : Int) = some (SW c w Z)
  | 0, n, h, hs => by
    rw [List.take_of_length_le (by omega)] at hs
    unfold Q_stopOf_l2
    rw [iter_eq, Q_stopOf_b2, if_neg (by simp only; omega), map_inr_after, hs]
  | m + 1, n, h, hs => by
    obtain ⟨q, hq, hqm, hd⟩ := idx_lt Z (i := (n : Int)) (by omega) (by omega)
    rw [show ((n : Int)).toNat = n by omega, show ((n : Int) + 1).toNat = n + 1 by omega] at hd
    have hg : Z[n]? = some q := by have := (idx_some hq).2.2; rwa [Int.toNat_natCast] at this
    have ht : Z.take (n + 1) = Z.take n ++ [q] := by rw [List.take_add_one, hg]; rfl
    have hnl : (Z.take n).length = n := by rw [List.length_take]; omega
    have hbl := bad_len (Z.take n)
    have w1 : w64 ((n : Int) + 1) = ((n + 1 : Nat) : Int) := by rw [w64_in] <;> omega
    have ih := stop_scan c w hw Z hl hm m (n + 1) (by omega)
    have hsn := SW_snoc c w (Z.take n) q
    rw [← ht, hs] at hsn
    have hwv : idx c.Waves (w : Int) = some (wavG c w) := by
      refine idx_nat ?_
      unfold wavG
      rw [List.getD_eq_getElem?_getD, List.getElem?_eq_getElem hw]; rfl
    have j2 : Q_stopOf_j2 c (w : Int) (n : Int) q (badN (Z.take (n + 1)) : Int) = if cndB c w (Z.take (n + 1)) = true then some (.inr q.At) else some (.inl ((badN (Z.take (n + 1)) : Int), ((n + 1 : Nat) : Int))) := by
      unfold Q_stopOf_j2 Q_stopOf_j3
      rw [hwv, w1]
      simp only [Option.bind_some]
      have e : cndB c w (Z.take (n + 1)) = (decide ((wavG c w).Least ≤ ((n + 1 : Nat) : Int)) && decide (w64 ((wavG c w).Fails * ((n + 1 : Nat) : Int)) < w64 ((badN (Z.take (n + 1)) : Int) * 1000))) := by
        unfold cndB
        rw [show (Z.take (n + 1)).length = n + 1 by rw [List.length_take]; omega, Int.mul_comm (1000 : Int)]
      rw [e]
      rfl
    have hstep : Q_stopOf_b2 c (w : Int) Z (badN (Z.take n) : Int) (n : Int) = Q_stopOf_j2 c (w : Int) (n : Int) q (badN (Z.take (n + 1)) : Int) := by
      rw [Q_stopOf_b2, if_pos (by omega), hq]
      simp only [Option.bind_some]
      rw [ht, bad_snoc]
      by_cases h4 : q.Kind = 4
      · rw [if_pos h4, if_pos h4, w64_in (by omega) (by omega)]; rfl
      · rw [if_neg h4, if_neg h4]; rfl
    unfold Q_stopOf_l2 at ih ⊢
    rw [iter_eq]
    simp only
    rw [hstep, j2]
    by_cases hc : cndB c w (Z.take (n + 1)) = true
    · rw [if_pos hc]
      rw [if_pos ⟨by omega, hc⟩] at hsn
      have hk := SW_keep c w (Z.take (n + 1)) (by rw [hsn]; exact hm q hqm) (Z.drop (n + 1))
      rw [List.take_append_drop] at hk
      rw [hk, hsn]; rfl
    · rw [if_neg hc]
      rw [if_neg (fun h => hc h.2)] at hsn
      simp only [Option.bind_some, after_inl]
      exact ih hsn
theorem sorted_at {l : List MarkS} (h : l.Pairwise (fun a b => mO a b < 0)) : ∀ a ∈ l, ∀ b ∈ l, ¬ mO a b < 0 → ¬ mO b a < 0 → a = b := by
  induction l with
  | nil => intro a ha; cases ha
  | cons x r ih =>
    rw [List.pairwise_cons] at h
    intro a ha b hb h1 h2
    rcases List.mem_cons.1 ha with ea | ha' <;> rcases List.mem_cons.1 hb with eb | hb'
    · rw [ea, eb]
    · rw [ea] at h1; exact absurd (h.1 b hb') h1
    · rw [eb] at h2; exact absurd (h.1 a ha') h2
    · exact ih h.2 a ha' b hb' h1 h2
/-- All that the laws say of a fleet, marks and a moment. -/
structure Cmp (c : Campaign) (fl : List DeviceS) (l : List MarkS) : Prop where
  c_ : CRight c
  f_ : FRight fl
  fl_ : (fl.length : Int) ≤ 500
  m_ : ∀ x ∈ l, MRight x
  s_ : l.Pairwise (fun a b => mO a b < 0)
  l_ : (l.length : Int) ≤ 3000
theorem stop_tail {c : Campaign} {fl : List DeviceS} {l : List MarkS} (H : Cmp c fl l) (w : Nat) (hw : w < c.Waves.length) (n : Nat) (X : List MarkS) (hX : X = (waF c fl w).flatMap (FM c (l.take n))) (hXl : (X.length : Int) ≤ 100000) : Q_stopOf_k4 c (w : Int) X = some (SW c w (EL c fl w (l.take n))) := by
  have hsub := (EL_sub c fl w (l.take n)).trans (List.take_sublist n l)
  have hperm := CE_perm (c := c) H.f_ w (l.take n)
  rw [← hX] at hperm
  unfold Q_stopOf_k4
  have hdel : slices_DeleteFunc_Mark_Mark X (fun y0 => some (Q_stopOf_1x y0)) = some (X.filter endB) := by
    have := gDel_eq ZM (fun y0 => some (Q_stopOf_1x y0)) Q_stopOf_1x X hXl (fun x _ => rfl)
    rw [show slices_DeleteFunc_Mark_Mark X (fun y0 => some (Q_stopOf_1x y0)) = gDel ZM X (fun y0 => some (Q_stopOf_1x y0)) from rfl, this]
    congr 1
    refine List.filter_congr (fun x _ => ?_)
    unfold Q_stopOf_1x Q_stopOf_1x_j1 endB
    rw [Bool.eq_iff_iff]; simp
  rw [hdel]
  simp only [Option.bind_some]
  have hmem : ∀ x ∈ X.filter endB, x ∈ l := fun x hx => hsub.subset (hperm.mem_iff.1 hx)
  have hMB : ∀ x ∈ X.filter endB, MB x := fun x hx => by have := (H.m_ x (hmem x hx)).mom; unfold MB; omega
  have hfl := List.length_filter_le endB X
  obtain ⟨Z, z1, z2, z3⟩ := sortO_eq (fun y0 y1 => some (Q_MarkOrder y0 y1)) mO (X.filter endB) (by omega) (fun a ha b hb => by rw [MarkOrder_eq (hMB a ha) (hMB b hb)]) (mO_3.ord _)
  have hzl := z2.length_eq
  have hs : lenOk (X.filter endB).length (fun r : List MarkS => r.length) (slices_SortFunc_Mark_Mark (X.filter endB) (fun y0 y1 => some (Q_MarkOrder y0 y1))) = some Z := len_ok z1 hzl
  rw [hs]
  simp only [Option.bind_some]
  have hZE : Z = EL c fl w (l.take n) := by
    refine srt_unique (z2.trans hperm) z3 ?_ (fun a ha b hb => sorted_at H.s_ a (hmem a (z2.mem_iff.1 ha)) b (hmem b (z2.mem_iff.1 hb)))
    unfold Srt
    refine (H.s_.sublist hsub).imp (fun {a b} hab hba => ?_)
    have := mO_3.neg a b
    omega
  rw [hZE]
  have hEl := hsub.length_le
  have hlb := H.l_
  exact stop_scan c w hw (EL c fl w (l.take n)) (by omega) (fun x hx => (H.m_ x (hsub.subset hx)).mom.1) _ 0 (Nat.zero_add _) rfl
theorem stopOf_loop {c : Campaign} {fl : List DeviceS} {l : List MarkS} (H : Cmp c fl l) (w : Nat) (hw : w < c.Waves.length) (at_ : Int) (n : Nat) (h1 : ∀ x ∈ l.take n, x.At ≤ at_) (h2 : ∀ x ∈ l.drop n, at_ < x.At) (hb : (fl.length * l.length : Int) ≤ 100000) : ∀ (m k : Nat) (X : List MarkS), k + m = fl.length → X = (waF c (fl.take k) w).flatMap (FM c (l.take n)) → X.length ≤ k * l.length → Q_stopOf_l1 c (w : Int) fl l at_ X (k : Int) = some (SW c w (EL c fl w (l.take n)))
  | 0, k, X, hk, hX, hXl => by
    have hkl : k = fl.length := by omega
    rw [hkl, List.take_of_length_le (Nat.le_refl _)] at hX
    unfold Q_stopOf_l1
    rw [iter_eq, Q_stopOf_b1, if_neg (by simp only; omega), map_inr_after]
    refine stop_tail H w hw n X hX ?_
    rw [hkl] at hXl
    have : ((fl.length * l.length : Nat) : Int) = (fl.length * l.length : Int) := by push_cast; rfl
    omega
  | m + 1, k, X, hk, hX, hXl => by
    obtain ⟨d, hd, hdm, _⟩ := idx_lt fl (i := (k : Int)) (by omega) (by omega)
    have hg : fl[k]? = some d := by have := (idx_some hd).2.2; rwa [Int.toNat_natCast] at this
    have ht : fl.take (k + 1) = fl.take k ++ [d] := by rw [List.take_add_one, hg]; rfl
    have hflb := H.fl_
    have w1 : w64 ((k : Int) + 1) = ((k + 1 : Nat) : Int) := by rw [w64_in] <;> omega
    have hFl := FM_len c (l.take n) d
    have hFl2 : (l.take n).length ≤ l.length := by rw [List.length_take]; omega
    have hmul : k * l.length ≤ fl.length * l.length := Nat.mul_le_mul_right _ (by omega)
    have hcast : ((fl.length * l.length : Nat) : Int) = (fl.length * l.length : Int) := by push_cast; rfl
    have hlb := H.l_
    have ih := fun X hX hXl => stopOf_loop H w hw at_ n h1 h2 hb m (k + 1) X (by omega) hX hXl
    unfold Q_stopOf_l1 at ih ⊢
    rw [iter_eq, Q_stopOf_b1, if_pos (by simp only; omega)]
    simp only
    rw [hd]
    simp only [Option.bind_some]
    rw [Qwave_ok c H.c_ d.Key (H.f_.key d hdm)]
    simp only [Option.bind_some]
    unfold Q_stopOf_j1
    rw [w1]
    have hmul2 : (k + 1) * l.length = k * l.length + l.length := Nat.succ_mul _ _
    by_cases hwk : wvN c d.Key = w
    · rw [if_pos (by rw [hwk]), Qfollowed_is c d l n at_ h1 h2 (by omega) (fun q hq => (H.m_ q hq).kind)]
      simp only [Option.bind_some]
      rw [app_le (by omega)]
      simp only [Option.bind_some, after_inl]
      refine ih _ ?_ (by rw [List.length_append, hmul2]; omega)
      rw [ht, hX]
      unfold waF
      rw [List.filter_append, List.filter_cons, if_pos (by simpa using hwk), List.flatMap_append]
      simp
    · rw [if_neg (by omega)]
      simp only [Option.bind_some, after_inl]
      refine ih _ ?_ (by rw [hmul2]; omega)
      rw [ht, hX]
      unfold waF
      rw [List.filter_append, List.filter_cons, if_neg (by simpa using hwk)]
      simp
theorem stopOf_eq {c : Campaign} {fl : List DeviceS} {l : List MarkS} (H : Cmp c fl l) (w : Nat) (hw : w < c.Waves.length) (at_ : Int) (n : Nat) (h1 : ∀ x ∈ l.take n, x.At ≤ at_) (h2 : ∀ x ∈ l.drop n, at_ < x.At) (hb : (fl.length * l.length : Int) ≤ 100000) : Q_stopOf c (w : Int) fl l at_ = some (SW c w (EL c fl w (l.take n))) :=
  stopOf_loop H w hw at_ n h1 h2 hb fl.length 0 [] (by omega) rfl (by simp)
/-! the first of all waves -/
def comb (r v : Int) : Int := if 0 ≤ v ∧ (r < 0 ∨ v < r) then v else r
theorem comb_char (f : Nat → Int) : ∀ N : Nat, ((List.range N).foldl (fun r w => comb r (f w)) (-1) = -1 ∧ ∀ w, w < N → f w < 0) ∨ (0 ≤ (List.range N).foldl (fun r w => comb r (f w)) (-1) ∧ (∃ w, w < N ∧ f w = (List.range N).foldl (fun r w => comb r (f w)) (-1)) ∧ ∀ w, w < N → f w < 0 ∨ (List.range N).foldl (fun r w => comb r (f w)) (-1) ≤ f w)
  | 0 => .inl ⟨rfl, fun w h => by omega⟩
  | N + 1 => by
    rw [List.range_succ, List.foldl_append]
    simp only [List.foldl_cons, List.foldl_nil]
    rcases comb_char f N with ⟨h1, h2⟩ | ⟨h1, ⟨w0, h2, h3⟩, h4⟩
    · rw [h1]
      unfold comb
      by_cases hv : 0 ≤ f N
      · rw [if_pos ⟨hv, .inl (by omega)⟩]
        refine .inr ⟨hv, ⟨N, by omega, rfl⟩, fun w hw => ?_⟩
        rcases Nat.lt_or_ge w N with h | h
        · exact .inl (h2 w h)
        · obtain rfl : w = N := by omega
          exact .inr (Int.le_refl _)
      · rw [if_neg (fun h => hv h.1)]
        refine .inl ⟨rfl, fun w hw => ?_⟩
        rcases Nat.lt_or_ge w N with h | h
        · exact h2 w h
        · obtain rfl : w = N := by omega
          omega
    · generalize (List.range N).foldl (fun r w => comb r (f w)) (-1) = r at h1 h3 h4 ⊢
      right
      unfold comb
      by_cases hv : 0 ≤ f N ∧ (r < 0 ∨ f N < r)
      · rw [if_pos hv]
        refine ⟨hv.1, ⟨N, by omega, rfl⟩, fun w hw => ?_⟩
        rcases Nat.lt_or_ge w N with h | h
        · have := h4 w h; omega
        · obtain rfl : w = N := by omega
          exact .inr (Int.le_refl _)
      · rw [if_neg hv]
        refine ⟨h1, ⟨w0, by omega, h3⟩, fun w hw => ?_⟩
        rcases Nat.lt_or_ge w N with h | h
        · exact h4 w h
        · obtain rfl : w = N := by omega
          omega
theorem SA_char (c : Campaign) (fl : List DeviceS) : ∀ dn : List MarkS, dn.Pairwise (fun a b => a.At ≤ b.At) → (∀ x ∈ dn, 0 ≤ x.At) →
    ((SA c fl dn = -1 ∧ ∀ w, w < c.Waves.length → SW c w (EL c fl w dn) = -1) ∨ (0 ≤ SA c fl dn ∧ (∃ w, w < c.Waves.length ∧ SW c w (EL c fl w dn) = SA c fl dn) ∧ ∀ w, w < c.Waves.length → SW c w (EL c fl w dn) = -1 ∨ SA c fl dn ≤ SW c w (EL c fl w dn))) ∧ ∀ w, w < c.Waves.length → SW c w (EL c fl w dn) = -1 ∨ ∃ x ∈ dn, SW c w (EL c fl w dn) = x.At := by
  refine snoc_ind (fun _ _ => ⟨.inl ⟨rfl, fun _ _ => rfl⟩, fun _ _ => .inl rfl⟩) (fun dn m ih hp hn => ?_)
  rw [List.pairwise_append] at hp
  obtain ⟨i1, i2⟩ := ih hp.1 (fun x hx => hn x (List.mem_append_left _ hx))
  have hm0 := hn m (by simp)
  have hle : ∀ x ∈ dn, x.At ≤ m.At := fun x hx => hp.2.2 x hx m (by simp)
  have hf : ∀ w, SW c w (EL c fl w (dn ++ [m])) = if hitB c fl dn w m = true ∧ SW c w (EL c fl w dn) < 0 ∧ cndB c w (EL c fl w (dn ++ [m])) = true then m.At else SW c w (EL c fl w dn) := by
    intro w
    rw [EL_snoc]
    by_cases h : hitB c fl dn w m = true
    · rw [if_pos h, SW_snoc]
      by_cases h2 : SW c w (EL c fl w dn) < 0 ∧ cndB c w (EL c fl w dn ++ [m]) = true
      · rw [if_pos h2, if_pos ⟨h, h2⟩]
      · rw [if_neg h2, if_neg (fun h' => h2 h'.2)]
    · rw [if_neg h, if_neg (fun h' => h h'.1)]
  have hnew : newB c fl dn m = true ↔ ∃ w, w < c.Waves.length ∧ hitB c fl dn w m = true ∧ cndB c w (EL c fl w (dn ++ [m])) = true := by
    unfold newB
    rw [List.any_eq_true]
    constructor
    · rintro ⟨w, hw, e⟩
      rw [Bool.and_eq_true] at e
      exact ⟨w, List.mem_range.1 hw, e⟩
    · rintro ⟨w, hw, e⟩
      exact ⟨w, List.mem_range.2 hw, by rw [Bool.and_eq_true]; exact e⟩
  refine ⟨?_, fun w hw => ?_⟩
  · rcases i1 with ⟨h1, h2⟩ | ⟨h1, ⟨w0, hw0, h2⟩, h3⟩
    · rw [SA_snoc, h1]
      by_cases hN : newB c fl dn m = true
      · rw [if_pos ⟨by omega, hN⟩]
        obtain ⟨w, hw, a1, a2⟩ := hnew.1 hN
        refine .inr ⟨hm0, ⟨w, hw, by rw [hf, if_pos ⟨a1, by rw [h2 w hw]; omega, a2⟩]⟩, fun v hv => ?_⟩
        rw [hf]
        split
        · exact .inr (Int.le_refl _)
        · exact .inl (h2 v hv)
      · rw [if_neg (fun h => hN h.2)]
        refine .inl ⟨rfl, fun w hw => ?_⟩
        rw [hf, if_neg]
        · exact h2 w hw
        · rintro ⟨a1, _, a2⟩
          exact hN (hnew.2 ⟨w, hw, a1, a2⟩)
    · rw [SA_snoc, if_neg (by omega)]
      refine .inr ⟨h1, ⟨w0, hw0, by rw [hf, if_neg (by omega)]; exact h2⟩, fun v hv => ?_⟩
      rw [hf]
      split
      · right
        have := i2 w0 hw0
        rcases this with e | ⟨x, hx, e⟩
        · omega
        · have := hle x hx; omega
      · exact h3 v hv
  · rw [hf]
    split
    · exact .inr ⟨m, by simp, rfl⟩
    · rcases i2 w hw with e | ⟨x, hx, e⟩
      · exact .inl e
      · exact .inr ⟨x, List.mem_append_left _ hx, e⟩
theorem StoppedOf_loop {c : Campaign} {fl : List DeviceS} {l : List MarkS} (H : Cmp c fl l) (at_ : Int) (n : Nat) (h1 : ∀ x ∈ l.take n, x.At ≤ at_) (h2 : ∀ x ∈ l.drop n, at_ < x.At) (hb : (fl.length * l.length : Int) ≤ 100000) : ∀ (m k : Nat), k + m = c.Waves.length → Q_StoppedOf_l1 c fl l at_ ((List.range k).foldl (fun r w => comb r (SW c w (EL c fl w (l.take n)))) (-1)) (k : Int) = some ((List.range c.Waves.length).foldl (fun r w => comb r (SW c w (EL c fl w (l.take n)))) (-1))
  | 0, k, hk => by
    have hkl : k = c.Waves.length := by omega
    subst hkl
    unfold Q_StoppedOf_l1
    rw [iter_eq, Q_StoppedOf_b1, if_neg (by simp only; omega), map_inr_after]
  | m + 1, k, hk => by
    have hcl := H.c_.len
    have w1 : w64 ((k : Int) + 1) = ((k + 1 : Nat) : Int) := by rw [w64_in] <;> omega
    have ih := StoppedOf_loop H at_ n h1 h2 hb m (k + 1) (by omega)
    rw [List.range_succ, List.foldl_append] at ih
    simp only [List.foldl_cons, List.foldl_nil] at ih
    unfold Q_StoppedOf_l1 at ih ⊢
    rw [iter_eq, Q_StoppedOf_b1, if_pos (by simp only; omega)]
    simp only
    rw [stopOf_eq H k (by omega) at_ n h1 h2 hb]
    simp only [Option.bind_some]
    generalize (List.range k).foldl (fun r w => comb r (SW c w (EL c fl w (l.take n)))) (-1) = r at ih ⊢
    generalize SW c k (EL c fl k (l.take n)) = v at ih ⊢
    unfold Q_StoppedOf_j1 Q_StoppedOf_j2
    rw [w1]
    unfold comb at ih
    by_cases hv : 0 ≤ v ∧ (r < 0 ∨ v < r)
    · rw [if_pos hv] at ih
      rw [if_pos (by simpa using hv)]
      simp only [Option.bind_some, after_inl]
      exact ih
    · rw [if_neg hv] at ih
      rw [if_neg (by simpa using hv)]
      simp only [Option.bind_some, after_inl]
      exact ih
theorem StoppedOf_eq {c : Campaign} {fl : List DeviceS} {l : List MarkS} (H : Cmp c fl l) (at_ : Int) (n : Nat) (h1 : ∀ x ∈ l.take n, x.At ≤ at_) (h2 : ∀ x ∈ l.drop n, at_ < x.At) (hb : (fl.length * l.length : Int) ≤ 100000) : Q_StoppedOf c fl l at_ = some (SA c fl (l.take n)) := by
  have h := StoppedOf_loop H at_ n h1 h2 hb c.Waves.length 0 (by omega)
  unfold Q_StoppedOf
  refine Eq.trans h (congrArg some ?_)
  have hsub := List.take_sublist n l
  obtain ⟨a, b⟩ := SA_char c fl (l.take n) ((H.s_.sublist hsub).imp mO_At) (fun x hx => (H.m_ x (hsub.subset hx)).mom.1)
  have hcc := comb_char (fun w => SW c w (EL c fl w (l.take n))) c.Waves.length
  generalize (List.range c.Waves.length).foldl (fun r w => comb r (SW c w (EL c fl w (l.take n)))) (-1) = r at hcc ⊢
  rcases hcc with ⟨p1, p2⟩ | ⟨p1, ⟨w, pw, p2⟩, p3⟩ <;> rcases a with ⟨q1, q2⟩ | ⟨q1, ⟨v, qv, q2⟩, q3⟩
  · omega
  · have := p2 v qv; omega
  · have := q2 w pw; omega
  · have := p3 v qv; have := q3 w pw; omega
/-- No wave fails before the second moment. -/
theorem crs_kind {c : Campaign} {dn : List MarkS} {d : DeviceS} (h : (crs c dn d).Standing.Kind ≠ 0) : ∃ x ∈ dn, relM c d.Key x = true := by
  cases e : dn.filter (relM c d.Key) with
  | nil => unfold crs at h; rw [e] at h; exact absurd rfl h
  | cons x r =>
    have : x ∈ dn.filter (relM c d.Key) := by rw [e]; simp
    rw [List.mem_filter] at this
    exact ⟨x, this⟩
theorem SA_gt (c : Campaign) (fl : List DeviceS) : ∀ dn : List MarkS, dn.Pairwise (fun a b => mO a b < 0) → SA c fl dn = -1 ∨ c.At < SA c fl dn := by
  refine snoc_ind (fun _ => .inl rfl) (fun dn m ih hp => ?_)
  rw [List.pairwise_append] at hp
  have ih := ih hp.1
  rw [SA_snoc]
  split
  · rename_i h
    right
    have hn := h.2
    unfold newB at hn
    rw [List.any_eq_true] at hn
    obtain ⟨w, _, hw⟩ := hn
    rw [Bool.and_eq_true] at hw
    have hh := hw.1
    unfold hitB at hh
    rw [Bool.and_eq_true, List.any_eq_true] at hh
    obtain ⟨he, d, hd, hq⟩ := hh
    unfold qD at hq
    simp only [Bool.and_eq_true, decide_eq_true_eq] at hq
    have hkind : (crs c dn d).Standing.Kind ≠ 0 := by
      have ho := hq.2.2
      unfold okC okK at ho
      unfold endB at he
      simp only [Bool.or_eq_true, decide_eq_true_eq] at he
      rw [if_neg (by omega), if_neg (by omega)] at ho
      simp only [decide_eq_true_eq] at ho
      omega
    obtain ⟨x, hx, hr⟩ := crs_kind hkind
    have hxm := hp.2.2 x hx m (by simp)
    unfold relM at hr hq
    simp only [Bool.and_eq_true, decide_eq_true_eq] at hr hq
    have hdev : x.Device = m.Device := by rw [hr.1, hq.2.1.1]
    unfold mO at hxm
    have hlt : x.At < m.At := by
      by_cases h0 : cmpI x.At m.At ≠ 0
      · rw [if_pos h0] at hxm
        unfold cmpI at hxm
        split at hxm
        · assumption
        · split at hxm <;> omega
      · rw [if_neg h0, hdev, cmpB_self] at hxm
        omega
    omega
  · exact ih
end Go.Beacon

/- Waves: when they begin. No program in sight. -/
set_option linter.unusedVariables false
set_option linter.unusedSimpArgs false
namespace Go.Beacon
open Go Go.Eng

section
variable (c : Campaign) (fl : List DeviceS) (l : List MarkS)
noncomputable def allO (w : Nat) (t : Int) : Bool := fl.all (fun d => !(decide (wvN c d.Key = w)) || ovC c (stOf c d l t))
def tmL (from_ at_ : Int) : List Int := from_ :: ((l.filter (fun m => decide (from_ ≤ m.At) && decide (m.At ≤ at_))).map MarkS.At)
def lastI (bs : List Int) : Int := bs.getLast?.getD 0
noncomputable def nextR (at_ : Int) (bs : List Int) : Option Int :=
  if bs.length = 0 then some c.At else if bs.length < c.Waves.length then ((tmL l (lastI bs) at_).find? (allO c fl l (bs.length - 1))).map (fun t => t + (wavG c bs.length).Wait) else none
inductive Rch (at_ S : Int) : List Int → Prop
  | nil : Rch at_ S []
  | snoc {bs : List Int} {nx : Int} (h : Rch at_ S bs) (hl : bs.length < c.Waves.length) (hn : nextR c fl l at_ bs = some nx) (ha : nx ≤ at_) (hs : ¬ (0 ≤ S ∧ S ≤ nx)) : Rch at_ S (bs ++ [nx])
def FinR (at_ S : Int) (bs : List Int) : Prop := ∀ nx, nextR c fl l at_ bs = some nx → at_ < nx ∨ (0 ≤ S ∧ S ≤ nx)
end
theorem lastI_snoc (bs : List Int) (x : Int) : lastI (bs ++ [x]) = x := by unfold lastI; rw [List.getLast?_concat]; rfl
theorem wavG_mem {c : Campaign} {k : Nat} (h : k < c.Waves.length) : wavG c k ∈ c.Waves := by
  unfold wavG
  rw [List.getD_eq_getElem?_getD, List.getElem?_eq_getElem h]
  exact List.getElem_mem h
theorem wavG_idx {c : Campaign} {k : Nat} (h : k < c.Waves.length) : idx c.Waves (k : Int) = some (wavG c k) := by
  refine idx_nat ?_
  unfold wavG
  rw [List.getD_eq_getElem?_getD, List.getElem?_eq_getElem h]; rfl
theorem tm_ge {l : List MarkS} {f a t : Int} (h : t ∈ tmL l f a) : f ≤ t ∧ (t = f ∨ t ≤ a) := by
  unfold tmL at h
  rcases List.mem_cons.1 h with e | h
  · exact ⟨by omega, .inl e⟩
  · obtain ⟨m, hm, rfl⟩ := List.mem_map.1 h
    have := (List.mem_filter.1 hm).2
    simp only [Bool.and_eq_true, decide_eq_true_eq] at this
    exact ⟨this.1, .inr this.2⟩
theorem waves_pos {c : Campaign} (hc : CRight c) : 0 < c.Waves.length := by
  have := hc.sum
  cases hw : c.Waves with
  | nil => rw [hw] at this; simp [pSum] at this
  | cons x y => simp
theorem next_len {c : Campaign} {fl : List DeviceS} {l : List MarkS} (hc : CRight c) {a : Int} {bs : List Int} {v : Int} (h : nextR c fl l a bs = some v) : bs.length < c.Waves.length := by
  have := waves_pos hc
  unfold nextR at h
  split at h
  · omega
  · split at h
    · assumption
    · cases h
theorem next_ge {c : Campaign} {fl : List DeviceS} {l : List MarkS} (hc : CRight c) {a : Int} {bs : List Int} {v : Int} (h : nextR c fl l a bs = some v) (hb : 0 ≤ lastI bs) : 0 ≤ v ∧ (bs.length = 0 → v = c.At) ∧ (bs.length ≠ 0 → lastI bs ≤ v) := by
  have hm := hc.mom
  have hlen := next_len hc h
  unfold nextR at h
  split at h
  · rename_i h0
    have := Option.some.inj h
    exact ⟨by omega, fun _ => by omega, fun h' => absurd h0 h'⟩
  · rename_i h0
    obtain ⟨t, ht, e⟩ := Option.map_eq_some_iff.1 h
    have hw := hc.wait _ (wavG_mem hlen)
    have := tm_ge (List.mem_of_find?_eq_some ht)
    exact ⟨by omega, fun h' => absurd h' h0, fun _ => by omega⟩
theorem Rch_ok {c : Campaign} {fl : List DeviceS} {l : List MarkS} (hc : CRight c) {a S : Int} {bs : List Int} (h : Rch c fl l a S bs) : bs.length ≤ c.Waves.length ∧ 0 ≤ lastI bs ∧ (bs.length ≠ 0 → lastI bs ≤ a) := by
  induction h with
  | nil => exact ⟨by simp, by unfold lastI; simp, fun h => absurd rfl h⟩
  | snoc h hl hn ha hs ih =>
    have := next_ge hc hn ih.2.1
    refine ⟨by simp; omega, by rw [lastI_snoc]; exact this.1, fun _ => by rw [lastI_snoc]; exact ha⟩
theorem allO_same {c : Campaign} {fl : List DeviceS} {l : List MarkS} {t t' : Int} (ht : t ≤ t') (h : ∀ x ∈ l, ¬ (t < x.At ∧ x.At ≤ t')) (w : Nat) : allO c fl l w t = allO c fl l w t' := by
  have e : ∀ d, stOf c d l t = stOf c d l t' := by
    intro d
    unfold stOf
    congr 1
    refine List.filter_congr (fun x hx => ?_)
    have := h x hx
    unfold relA
    congr 2
    rw [decide_eq_decide]; omega
  unfold allO
  simp only [e]
theorem find_mono {l : List MarkS} (hs : l.Pairwise (fun a b => a.At ≤ b.At)) (q : Int → Bool) (f a a' : Int) (ha : a ≤ a') (t : Int) : ((l.filter (fun m => decide (f ≤ m.At) && decide (m.At ≤ a))).map MarkS.At).find? q = some t → ((l.filter (fun m => decide (f ≤ m.At) && decide (m.At ≤ a'))).map MarkS.At).find? q = some t := by
  induction l with
  | nil => intro h; exact h
  | cons x r ih =>
    rw [List.pairwise_cons] at hs
    have ih := ih hs.2
    intro h
    rw [List.filter_cons] at h ⊢
    by_cases h1 : f ≤ x.At
    · by_cases h2 : x.At ≤ a
      · rw [if_pos (by simp; omega), List.map_cons, List.find?_cons] at h ⊢
        cases hq : q x.At with
        | true => rw [hq] at h; exact h
        | false => rw [hq] at h; exact ih h
      · rw [if_neg (by simp; omega)] at h
        have : r.filter (fun m => decide (f ≤ m.At) && decide (m.At ≤ a)) = [] := by
          rw [List.filter_eq_nil_iff]
          intro y hy
          have := hs.1 y hy
          simp only [Bool.and_eq_true, decide_eq_true_eq]; omega
        rw [this] at h; cases h
    · rw [if_neg (by simp; omega)] at h ⊢
      exact ih h
theorem next_mono {c : Campaign} {fl : List DeviceS} {l : List MarkS} (hs : l.Pairwise (fun a b => a.At ≤ b.At)) {a a' : Int} (ha : a ≤ a') {bs : List Int} {v : Int} (h : nextR c fl l a bs = some v) : nextR c fl l a' bs = some v := by
  unfold nextR at h ⊢
  split
  · rename_i h0; rw [if_pos h0] at h; exact h
  · rename_i h0
    rw [if_neg h0] at h
    split
    · rename_i h1
      rw [if_pos h1] at h
      obtain ⟨t, ht, e⟩ := Option.map_eq_some_iff.1 h
      rw [Option.map_eq_some_iff]
      refine ⟨t, ?_, e⟩
      unfold tmL at ht ⊢
      rw [List.find?_cons] at ht ⊢
      cases hq : allO c fl l (bs.length - 1) (lastI bs) with
      | true => rw [hq] at ht; exact ht
      | false => rw [hq] at ht; exact find_mono hs _ _ _ _ ha t ht
    · rename_i h1; rw [if_neg h1] at h; cases h
def Srel (T S0 S1 : Int) : Prop := (S0 < 0 ∧ (S1 < 0 ∨ T < S1)) ∨ (0 ≤ S0 ∧ S1 = S0)
theorem Rch_mono {c : Campaign} {fl : List DeviceS} {l : List MarkS} (hs : l.Pairwise (fun a b => a.At ≤ b.At)) {a a' S0 S1 : Int} (ha : a ≤ a') (hS : Srel a S0 S1) {bs : List Int} (h : Rch c fl l a S0 bs) : Rch c fl l a' S1 bs := by
  induction h with
  | nil => exact .nil
  | snoc h hl hn hx hb ih =>
    refine .snoc ih hl (next_mono hs ha hn) (by omega) ?_
    unfold Srel at hS
    omega
structure Pre (c : Campaign) (fl : List DeviceS) (l : List MarkS) (T S : Int) (bs : List Int) (nx : Int) : Prop where
  r : Rch c fl l T S bs
  n : nx = (nextR c fl l T bs).getD (-1)
  f : FinR c fl l T S bs
theorem tm_up {l : List MarkS} {f a a' t : Int} (h : t ∈ tmL l f a') : t ∈ tmL l f a ∨ (∃ x ∈ l, x.At = t ∧ a < t ∧ t ≤ a') := by
  unfold tmL at h ⊢
  rcases List.mem_cons.1 h with e | h
  · exact .inl (by rw [e]; exact List.mem_cons_self)
  · obtain ⟨m, hm, rfl⟩ := List.mem_map.1 h
    have hmm := List.mem_filter.1 hm
    have := hmm.2
    simp only [Bool.and_eq_true, decide_eq_true_eq] at this
    by_cases hx : m.At ≤ a
    · refine .inl (List.mem_cons_of_mem _ (List.mem_map.2 ⟨m, List.mem_filter.2 ⟨hmm.1, by simp; omega⟩, rfl⟩))
    · exact .inr ⟨m, hmm.1, rfl, by omega, this.2⟩
/-- The last time that is looked at. -/
theorem tm_last {l : List MarkS} (f a : Int) (hf : f ≤ a) : ∃ t ∈ tmL l f a, t ≤ a ∧ ∀ x ∈ l, ¬ (t < x.At ∧ x.At ≤ a) := by
  induction l with
  | nil => exact ⟨f, by unfold tmL; simp, hf, by simp⟩
  | cons x r ih =>
    obtain ⟨t, t1, t2, t3⟩ := ih
    have hsub : t ∈ tmL (x :: r) f a := by
      unfold tmL at t1 ⊢
      rcases List.mem_cons.1 t1 with e | h
      · rw [e]; exact List.mem_cons_self
      · refine List.mem_cons_of_mem _ ?_
        obtain ⟨m, hm, e⟩ := List.mem_map.1 h
        have hmm := List.mem_filter.1 hm
        exact List.mem_map.2 ⟨m, List.mem_filter.2 ⟨List.mem_cons_of_mem _ hmm.1, hmm.2⟩, e⟩
    by_cases hx : t < x.At ∧ x.At ≤ a
    · have hft := (tm_ge t1).1
      refine ⟨x.At, ?_, hx.2, fun y hy => ?_⟩
      · unfold tmL
        refine List.mem_cons_of_mem _ (List.mem_map.2 ⟨x, List.mem_filter.2 ⟨List.mem_cons_self, by simp; omega⟩, rfl⟩)
      · rcases List.mem_cons.1 hy with rfl | hy
        · omega
        · have := t3 y hy; omega
    · refine ⟨t, hsub, t2, fun y hy => ?_⟩
      rcases List.mem_cons.1 hy with rfl | hy
      · exact hx
      · exact t3 y hy
theorem open_all {c : Campaign} {fl : List DeviceS} {l : List MarkS} {s : CS} {n : Nat} (h : SX c fl s (l.take n)) {T : Int} (h1 : ∀ x ∈ l.take n, x.At ≤ T) (h2 : ∀ x ∈ l.drop n, T < x.At) {w : Nat} (hw : w < c.Waves.length) : s.open_.getD w 0 = 0 ↔ allO c fl l w T = true := by
  rw [h.opn w hw]
  unfold cntO allO
  rw [List.all_eq_true]
  constructor
  · intro e d hd
    have e' : (fl.filter (opP c (l.take n) w)) = [] := List.length_eq_zero_iff.1 (by omega)
    rw [List.filter_eq_nil_iff] at e'
    have := e' d hd
    unfold opP at this
    rw [crs_take c d l n T h1 h2] at this
    cases a : decide (wvN c d.Key = w) <;> cases b : ovC c (stOf c d l T) <;> simp_all
  · intro e
    have : (fl.filter (opP c (l.take n) w)) = [] := by
      rw [List.filter_eq_nil_iff]
      intro d hd
      have := e d hd
      unfold opP
      rw [crs_take c d l n T h1 h2]
      cases a : decide (wvN c d.Key = w) <;> cases b : ovC c (stOf c d l T) <;> simp_all
    rw [this]; rfl
section
variable {c : Campaign} {fl : List DeviceS} {l : List MarkS} (H : Cmp c fl l) {s : CS} {n : Nat} (h : SX c fl s (l.take n)) {T T' : Int} (hT : T ≤ T') (hTb : T' ≤ 345686399999) (hTa : -1 ≤ T)
  (h1 : ∀ x ∈ l.take n, x.At ≤ T') (h2 : ∀ x ∈ l.drop n, T' < x.At) (hgap : (∀ x ∈ l, ¬ (T < x.At ∧ x.At ≤ T')) ∨ T' = T + 1) {S0 : Int} (hS : Srel T S0 (SA c fl (l.take n)))
include H h hT hTb hTa h1 h2 hgap hS
/-- What stands in the loop. -/
def InvB (c : Campaign) (fl : List DeviceS) (l : List MarkS) (T T' S1 : Int) (bs : List Int) (nx : Int) (x : List Int × Int) : Prop :=
  Rch c fl l T' S1 x.1 ∧ ((x.1 = bs ∧ x.2 = nx) ∨ (x.1.length ≠ 0 ∧ T < lastI x.1 ∧ x.2 = if x.1.length < c.Waves.length ∧ allO c fl l (x.1.length - 1) T' = true then lastI x.1 + (wavG c x.1.length).Wait else -1))
theorem begin_head (hP : Pre c fl l T S0 s.begins_ s.next_) (l5 : List Int) (n6 : Int) (hI : InvB c fl l T T' (SA c fl (l.take n)) s.begins_ s.next_ (l5, n6)) :
    campaign_state_begin_b1 s T' l5 n6 = campaign_state_begin_j2 s T' l5 ((nextR c fl l T' l5).getD (-1)) ∧ ∀ v, nextR c fl l T' l5 = some v → T < v ∨ (0 ≤ SA c fl (l.take n) ∧ SA c fl (l.take n) ≤ v) := by
  have hc := H.c_
  have hsA : l.Pairwise (fun a b => a.At ≤ b.At) := H.s_.imp mO_At
  obtain ⟨hR, hI⟩ := hI
  simp only at hR hI
  obtain ⟨r1, r2, r3⟩ := Rch_ok hc hR
  have hclen := hc.len
  have fls : ∀ m : Int, campaign_state_begin_j1 s T' l5 m false = campaign_state_begin_j2 s T' l5 m := fun m => by unfold campaign_state_begin_j1; rw [if_neg (by simp)]
  have pos : ∀ m : Int, 0 ≤ m → campaign_state_begin_b1 s T' l5 m = campaign_state_begin_j2 s T' l5 m := fun m hm => by unfold campaign_state_begin_b1; rw [if_neg (by omega), fls]
  have full : ∀ m : Int, ¬ l5.length < c.Waves.length → campaign_state_begin_b1 s T' l5 m = campaign_state_begin_j2 s T' l5 m := by
    intro m hm
    unfold campaign_state_begin_b1
    rw [h.c_]
    split
    · split
      · rw [if_neg (by omega), fls]
      · exact fls m
    · exact fls m
  -- the head when nothing is known of the next wave
  have neg : l5.length ≠ 0 → l5.length < c.Waves.length → campaign_state_begin_b1 s T' l5 (-1) = campaign_state_begin_j2 s T' l5 (if allO c fl l (l5.length - 1) T' = true then T' + (wavG c l5.length).Wait else -1) := by
    intro k0 k1
    have w1 : w64 ((l5.length : Int) - 1) = ((l5.length - 1 : Nat) : Int) := by rw [w64_in] <;> omega
    unfold campaign_state_begin_b1
    rw [if_pos (by omega), if_pos (by omega), h.c_, if_pos (by omega), w1, idx_get (l := s.open_) (by rw [h.open_]; omega)]
    simp only [Option.bind_some]
    have hoa := open_all h h1 h2 (w := l5.length - 1) (by omega)
    by_cases ha : allO c fl l (l5.length - 1) T' = true
    · rw [if_pos (hoa.2 ha), if_pos ha]
      have hli : idx l5 ((l5.length - 1 : Nat) : Int) = some (lastI l5) := by
        refine idx_nat ?_
        unfold lastI
        rw [List.getLast?_eq_getElem?]
        cases hx : l5[l5.length - 1]? with
        | none => rw [List.getElem?_eq_none_iff] at hx; omega
        | some y => rfl
      rw [hli]
      simp only [Option.bind_some]
      have hwm := hc.wait _ (wavG_mem k1)
      unfold campaign_state_begin_j1
      rw [if_pos (by simpa using r3 k0), h.c_, wavG_idx k1]
      simp only [Option.bind_some]
      rw [w64_in (by omega) (by omega)]
    · rw [if_neg (fun e => ha (hoa.1 e)), if_neg ha, fls]
  rcases hI with ⟨rfl, rfl⟩ | ⟨k0, k1, k2⟩
  · -- nothing has begun yet
    cases hn : nextR c fl l T s.begins_ with
    | some v =>
      have hv := next_ge hc hn r2
      have hn' := next_mono hsA hT hn
      rw [hn']
      refine ⟨?_, fun v' e => ?_⟩
      · rw [hP.n, hn]; exact pos v hv.1
      · obtain rfl := Option.some.inj e
        rcases hP.f v hn with a | a
        · exact .inl a
        · unfold Srel at hS; right; omega
    | none =>
      have hnx : s.next_ = -1 := by rw [hP.n, hn]; rfl
      have k0 : s.begins_.length ≠ 0 := by
        intro e; unfold nextR at hn; rw [if_pos e] at hn; cases hn
      rw [hnx]
      by_cases k1 : s.begins_.length < c.Waves.length
      · have hlast := (Rch_ok hc hP.r).2.2 k0
        unfold nextR at hn
        rw [if_neg k0, if_pos k1, Option.map_eq_none_iff, List.find?_eq_none] at hn
        have hnew : ∀ t, t ∈ tmL l (lastI s.begins_) T' → allO c fl l (s.begins_.length - 1) t = true → t = T' ∧ T < T' := by
          intro t ht hq
          rcases tm_up (a := T) ht with e | ⟨x, hx, e1, e2, e3⟩
          · exact absurd hq (hn t e)
          · rcases hgap with g | g
            · exact absurd ⟨by omega, by omega⟩ (g x hx)
            · exact ⟨by omega, by omega⟩
        have hval : nextR c fl l T' s.begins_ = if allO c fl l (s.begins_.length - 1) T' = true then some (T' + (wavG c s.begins_.length).Wait) else none := by
          unfold nextR
          rw [if_neg k0, if_pos k1]
          by_cases ha : allO c fl l (s.begins_.length - 1) T' = true
          · rw [if_pos ha]
            have hex : ∃ x ∈ l, T < x.At ∧ x.At ≤ T' := by
              refine Classical.byContradiction (fun hno => ?_)
              have hno' : ∀ x ∈ l, ¬ (T < x.At ∧ x.At ≤ T') := fun x hx hh => hno ⟨x, hx, hh⟩
              obtain ⟨t, t1, t2, t3⟩ := tm_last (l := l) (lastI s.begins_) T hlast
              have := allO_same (c := c) (fl := fl) (l := l) (t := t) (t' := T') (by omega) (fun x hx hh => by
                have a1 := t3 x hx
                have a2 := hno' x hx
                omega) (s.begins_.length - 1)
              exact hn t t1 (by rw [this]; exact ha)
            obtain ⟨x, hx, x1, x2⟩ := hex
            have hmem : T' ∈ tmL l (lastI s.begins_) T' := by
              have : x.At = T' := by
                rcases hgap with g | g
                · exact absurd ⟨x1, x2⟩ (g x hx)
                · omega
              unfold tmL
              exact List.mem_cons_of_mem _ (List.mem_map.2 ⟨x, List.mem_filter.2 ⟨hx, by simp; omega⟩, this⟩)
            cases hf : (tmL l (lastI s.begins_) T').find? (allO c fl l (s.begins_.length - 1)) with
            | none => rw [List.find?_eq_none] at hf; exact absurd ha (hf T' hmem)
            | some t =>
              have := hnew t (List.mem_of_find?_eq_some hf) (List.find?_some hf)
              rw [this.1]; rfl
          · rw [if_neg ha, Option.map_eq_none_iff, List.find?_eq_none]
            intro t ht hq
            have := hnew t ht hq
            rw [this.1] at hq
            exact ha hq
        rw [hval, neg k0 k1]
        refine ⟨?_, fun v hv => ?_⟩
        · split <;> rfl
        · split at hv
          · rename_i ha
            left
            have hwm := hc.wait _ (wavG_mem k1)
            have hv := Option.some.inj hv
            have hf : nextR c fl l T' s.begins_ = some (T' + (wavG c s.begins_.length).Wait) := by rw [hval, if_pos ha]
            unfold nextR at hf
            rw [if_neg k0, if_pos k1] at hf
            obtain ⟨t, ht, _⟩ := Option.map_eq_some_iff.1 hf
            have := hnew t (List.mem_of_find?_eq_some ht) (List.find?_some ht)
            omega
          · cases hv
      · have hval : nextR c fl l T' s.begins_ = none := by unfold nextR; rw [if_neg k0, if_neg k1]
        rw [hval]
        exact ⟨full _ k1, fun v hv => by cases hv⟩
  · -- a wave has begun in this call
    by_cases kw : l5.length < c.Waves.length
    · have hle := r3 k0
      have hwm := hc.wait _ (wavG_mem kw)
      have hfs : allO c fl l (l5.length - 1) (lastI l5) = allO c fl l (l5.length - 1) T' := by
        refine allO_same hle (fun x hx hh => ?_) _
        rcases hgap with g | g
        · exact g x hx ⟨by omega, hh.2⟩
        · omega
      have hval : nextR c fl l T' l5 = if allO c fl l (l5.length - 1) T' = true then some (lastI l5 + (wavG c l5.length).Wait) else none := by
        unfold nextR
        rw [if_neg k0, if_pos kw]
        by_cases ha : allO c fl l (l5.length - 1) T' = true
        · rw [if_pos ha]
          unfold tmL
          rw [List.find?_cons, hfs, ha]; rfl
        · rw [if_neg ha, Option.map_eq_none_iff, List.find?_eq_none]
          intro t ht hq
          rcases List.mem_cons.1 (show t ∈ lastI l5 :: _ from ht) with e | hm
          · rw [e, hfs] at hq; exact ha hq
          · obtain ⟨m, hm, e⟩ := List.mem_map.1 hm
            have hmm := List.mem_filter.1 hm
            have := hmm.2
            simp only [Bool.and_eq_true, decide_eq_true_eq] at this
            rcases hgap with g | g
            · exact g m hmm.1 ⟨by omega, by omega⟩
            · have : t = T' := by omega
              rw [this] at hq; exact ha hq
      rw [hval, k2]
      refine ⟨?_, fun v hv => ?_⟩
      · by_cases ha : allO c fl l (l5.length - 1) T' = true
        · rw [if_pos ⟨kw, ha⟩, if_pos ha]; exact pos _ (by omega)
        · rw [if_neg (fun e => ha e.2), if_neg ha, neg k0 kw, if_neg ha]; rfl
      · split at hv
        · have := Option.some.inj hv; left; omega
        · cases hv
    · have hval : nextR c fl l T' l5 = none := by unfold nextR; rw [if_neg k0, if_neg kw]
      rw [hval, k2, if_neg (fun e => kw e.1)]
      exact ⟨full _ kw, fun v hv => by cases hv⟩
/-- Waves begin up to a moment. -/
theorem begin_adv (hP : Pre c fl l T S0 s.begins_ s.next_) : Ok (campaign_state_begin s T') (fun r => sameS r s ∧ SX c fl r (l.take n) ∧ Pre c fl l T' (SA c fl (l.take n)) r.begins_ r.next_) := by
  have hc := H.c_
  have hsA : l.Pairwise (fun a b => a.At ≤ b.At) := H.s_.imp mO_At
  have hclen := hc.len
  have hcm := hc.mom
  unfold campaign_state_begin campaign_state_begin_l1
  refine Ok.iter (fun x : List Int × Int => c.Waves.length - x.1.length) (InvB c fl l T T' (SA c fl (l.take n)) s.begins_ s.next_) ?_ _ ⟨Rch_mono hsA hT hS hP.r, .inl ⟨rfl, rfl⟩⟩
  rintro ⟨l5, n6⟩ hI
  obtain ⟨e1, e2⟩ := begin_head H h hT hTb hTa h1 h2 hgap hS hP l5 n6 hI
  have hR := hI.1
  simp only at hR ⊢
  obtain ⟨r1, r2, r3⟩ := Rch_ok hc hR
  rw [e1]
  generalize hn10 : (nextR c fl l T' l5).getD (-1) = n10
  unfold campaign_state_begin_j2 campaign_state_begin_j3
  have hsome : 0 ≤ n10 → nextR c fl l T' l5 = some n10 := by
    intro h0
    cases hx : nextR c fl l T' l5 with
    | none => rw [hx] at hn10; simp at hn10; omega
    | some v => rw [hx] at hn10; simp at hn10; rw [hn10]
  by_cases hcnd : ((decide (n10 < (0 : Int))) || ((decide (T' < n10)) || ((decide ((0 : Int) < (l5.length : Int))) && ((decide ((0 : Int) ≤ s.stopped_)) && (decide (s.stopped_ ≤ n10)))))) = true
  · rw [if_pos hcnd]
    refine Ok.inr (Ok.ret ⟨⟨rfl, rfl, rfl, rfl⟩, ⟨⟨h.c_, h.of_, h.wave_, h.ar0, h.open_, h.ends_, h.fails_, r1, fun h0 => next_len hc (hsome h0)⟩, h.opn, h.en, h.fa, h.sp⟩, ⟨hR, hn10.symm, fun v hv => ?_⟩⟩)
    have hvn : n10 = v := by rw [← hn10, hv]; rfl
    have hv0 := (next_ge hc hv r2).1
    rw [h.sp] at hcnd
    simp only [Bool.or_eq_true, Bool.and_eq_true, decide_eq_true_eq] at hcnd
    omega
  · rw [if_neg hcnd]
    rw [h.sp] at hcnd
    simp only [Bool.or_eq_true, Bool.and_eq_true, decide_eq_true_eq, not_or] at hcnd
    have hnx := hsome (by omega)
    have hlt := next_len hc hnx
    have hgt := SA_gt c fl (l.take n) (H.s_.sublist (List.take_sublist n l))
    have hns : ¬ (0 ≤ SA c fl (l.take n) ∧ SA c fl (l.take n) ≤ n10) := by
      intro hh
      by_cases h0 : l5.length = 0
      · have := (next_ge hc hnx r2).2.1 h0
        omega
      · exact hcnd.2.2 ⟨by omega, hh⟩
    have hR' : Rch c fl l T' (SA c fl (l.take n)) (l5 ++ [n10]) := .snoc hR hlt hnx (by omega) hns
    have hTn : T < n10 := by
      rcases e2 n10 hnx with a | a
      · exact a
      · exact absurd a hns
    refine Ok.app (by simp; omega) ?_
    have w1 : w64 ((l5.length : Int) + 1) = ((l5.length + 1 : Nat) : Int) := by rw [w64_in] <;> omega
    rw [w1]
    have j5 : ∀ n17 : Int, n17 = (if l5.length + 1 < c.Waves.length ∧ allO c fl l l5.length T' = true then n10 + (wavG c (l5.length + 1)).Wait else -1) → Ok (campaign_state_begin_j5 (l5 ++ [n10]) n17) (Stp (fun x : List Int × Int => c.Waves.length - x.1.length) (InvB c fl l T T' (SA c fl (l.take n)) s.begins_ s.next_) (fun r => sameS r s ∧ SX c fl r (l.take n) ∧ Pre c fl l T' (SA c fl (l.take n)) r.begins_ r.next_) (l5, n6)) := by
      intro n17 hn17
      unfold campaign_state_begin_j5
      refine Ok.ret ⟨⟨hR', .inr ⟨by simp, by simp only; rw [lastI_snoc]; exact hTn, ?_⟩⟩, by simp; omega⟩
      simp only
      rw [lastI_snoc, List.length_append, List.length_singleton, hn17]
      rfl
    rw [h.c_]
    by_cases hk : l5.length + 1 < c.Waves.length
    · rw [if_pos (by omega), idx_get (l := s.open_) (by rw [h.open_]; omega)]
      simp only [Option.bind_some]
      have hoa := open_all h h1 h2 (w := l5.length) hlt
      unfold campaign_state_begin_j4
      by_cases ha : allO c fl l l5.length T' = true
      · rw [if_pos (decide_eq_true (hoa.2 ha)), w1, h.c_, wavG_idx hk]
        simp only [Option.bind_some]
        have hwm := hc.wait _ (wavG_mem hk)
        refine j5 _ ?_
        rw [if_pos ⟨hk, ha⟩, w64_in (by omega) (by omega)]
      · rw [if_neg (by rw [decide_eq_false (fun e => ha (hoa.1 e))]; exact Bool.false_ne_true)]
        refine j5 _ ?_
        rw [if_neg (fun e => ha e.2)]
    · rw [if_neg (by omega)]
      unfold campaign_state_begin_j4
      rw [if_neg (by simp)]
      refine j5 _ ?_
      rw [if_neg (fun e => hk e.1)]
end
end Go.Beacon

/- Waves: the reference's times, and the law. No program in sight. -/
set_option linter.unusedVariables false
set_option linter.unusedSimpArgs false
namespace Go.Beacon
open Go Go.Eng

theorem findI_find (p : Int → Bool) : ∀ (xs : List Int) (i : Int), 0 ≤ i → (findI p xs i = -1 ∧ xs.find? p = none) ∨ ∃ (j : Nat) (x : Int), findI p xs i = i + j ∧ xs[j]? = some x ∧ xs.find? p = some x
  | [], i, _ => .inl ⟨rfl, rfl⟩
  | y :: r, i, h => by
    rw [List.find?_cons]
    unfold findI
    cases hy : p y with
    | true => rw [if_pos rfl]; exact .inr ⟨0, y, by simp, rfl, rfl⟩
    | false =>
      rw [if_neg (by simp)]
      rcases findI_find p r (i + 1) (by omega) with ⟨h1, h2⟩ | ⟨j, x, h1, h2, h3⟩
      · exact .inl ⟨h1, h2⟩
      · exact .inr ⟨j + 1, x, by rw [h1]; omega, by simpa using h2, h3⟩
theorem wsort (X : List Int) (h : X.length ≤ 5000) (hs : X.Pairwise (fun a b => a ≤ b)) : lenOk X.length (fun r : List Int => r.length) (slices_Sort_int_int X) = some X := by
  have e : srtI X = X := by
    unfold srtI
    exact List.mergeSort_of_pairwise (hs.imp (fun {a b} hab => by simpa using hab))
  unfold slices_Sort_int_int sort1
  rw [if_pos (by omega), e]
  unfold lenOk
  simp
theorem Qover_eq {c : Campaign} {fl : List DeviceS} {l : List MarkS} (H : Cmp c fl l) (d : DeviceS) (t : Int) : Q_over c d l t = some (ovC c (stOf c d l t)) := by
  have hl := H.l_
  unfold Q_over Q_over_j1
  rw [StandsOf_eq c d l t (by omega) (fun q hq => (H.m_ q hq).kind)]
  simp only [Option.bind_some]
  unfold ovC
  cases decide ((stOf c d l t).Standing.Version = c.Target) <;> simp
theorem Q1x_eq {c : Campaign} {fl : List DeviceS} {l : List MarkS} (H : Cmp c fl l) (k : Nat) (hk : 0 < k ∧ k ≤ 20) (t : Int) : Q_BeginsOf_1x t fl c (k : Int) l = some (allO c fl l (k - 1) t) := by
  have hfl := H.fl_
  have w1 : w64 ((k : Int) - 1) = ((k - 1 : Nat) : Int) := by rw [w64_in] <;> omega
  have hf : ∀ d ∈ fl, Q_BeginsOf_1x_1x d c (k : Int) l t = some (decide (wvN c d.Key = k - 1) && !ovC c (stOf c d l t)) := by
    intro d hd
    unfold Q_BeginsOf_1x_1x Q_BeginsOf_1x_1x_j1
    rw [Qwave_ok c H.c_ d.Key (H.f_.key d hd), w1]
    simp only [Option.bind_some]
    by_cases e : wvN c d.Key = k - 1
    · rw [if_pos (by omega), Qover_eq H]
      simp [e]
    · rw [if_neg (by omega)]
      simp [e]
  unfold Q_BeginsOf_1x
  rw [show slices_ContainsFunc_Device_Device fl (fun y0 => Q_BeginsOf_1x_1x y0 c (k : Int) l t) = some (fl.any (fun d => decide (wvN c d.Key = k - 1) && !ovC c (stOf c d l t))) from gContainsFunc_eq fl _ _ hf (by omega)]
  simp only [Option.bind_some]
  unfold allO
  rw [List.not_any_eq_all_not]
  simp only [Bool.not_and, Bool.not_not]
theorem times_loop (c : Campaign) (fl : List DeviceS) (l : List MarkS) (at_ S : Int) (bs : List Int) (k from_ : Int) (hl : (l.length : Int) ≤ 3000) : ∀ (m n : Nat) (X : List Int), n + m = l.length → X.length ≤ n + 1 →
    Q_BeginsOf_l2 c fl l at_ S bs k from_ X (n : Int) = Q_BeginsOf_k3 c fl l at_ S bs k (X ++ ((l.drop n).filter (fun m => decide (from_ ≤ m.At) && decide (m.At ≤ at_))).map MarkS.At)
  | 0, n, X, h, hX => by
    unfold Q_BeginsOf_l2
    rw [iter_eq, Q_BeginsOf_b2, if_neg (by simp only; omega), map_inr_after, List.drop_of_length_le (by omega)]
    simp
  | m + 1, n, X, h, hX => by
    obtain ⟨q, hq, hqm, hd⟩ := idx_lt l (i := (n : Int)) (by omega) (by omega)
    rw [show ((n : Int)).toNat = n by omega, show ((n : Int) + 1).toNat = n + 1 by omega] at hd
    have w1 : w64 ((n : Int) + 1) = ((n + 1 : Nat) : Int) := by rw [w64_in] <;> omega
    have ih := fun X hX => times_loop c fl l at_ S bs k from_ hl m (n + 1) X (by omega) hX
    unfold Q_BeginsOf_l2 at ih ⊢
    rw [iter_eq, Q_BeginsOf_b2, if_pos (by simp only; omega), hd, List.filter_cons]
    simp only
    rw [hq]
    simp only [Option.bind_some]
    rw [Qin_eq]
    unfold Q_BeginsOf_j2
    rw [w1]
    by_cases hr : (decide (from_ ≤ q.At) && decide (q.At ≤ at_)) = true
    · rw [if_pos hr, if_pos hr, app_le (by simp; omega)]
      simp only [Option.bind_some, after_inl]
      rw [ih _ (by simp; omega), List.map_cons, List.append_assoc]; rfl
    · rw [if_neg hr, if_neg hr]
      simp only [Option.bind_some, after_inl]
      exact ih X (by omega)
theorem tm_sorted {l : List MarkS} (hs : l.Pairwise (fun a b => a.At ≤ b.At)) (f a : Int) : (tmL l f a).Pairwise (fun x y => x ≤ y) := by
  unfold tmL
  rw [List.pairwise_cons]
  refine ⟨fun y hy => ?_, ?_⟩
  · obtain ⟨m, hm, rfl⟩ := List.mem_map.1 hy
    have := (List.mem_filter.1 hm).2
    simp only [Bool.and_eq_true, decide_eq_true_eq] at this
    exact this.1
  · rw [List.pairwise_map]
    exact List.Pairwise.filter _ hs
theorem tm_len (l : List MarkS) (f a : Int) : (tmL l f a).length ≤ l.length + 1 := by
  unfold tmL
  rw [List.length_cons, List.length_map]
  have := List.length_filter_le (fun m : MarkS => decide (f ≤ m.At) && decide (m.At ≤ a)) l
  omega
theorem ref_j1 (c : Campaign) (at_ S : Int) (bs : List Int) (n15 n18 : Int) (hb : bs.length ≤ 1000) : Q_BeginsOf_j1 at_ S bs n15 n18 = if at_ < n18 ∨ (0 ≤ S ∧ S ≤ n18) then some (.inr bs) else some (.inl (bs ++ [n18], n18, w64 (n15 + 1))) := by
  unfold Q_BeginsOf_j1 Q_BeginsOf_j4
  by_cases h : at_ < n18 ∨ (0 ≤ S ∧ S ≤ n18)
  · rw [if_pos h, if_pos (by simpa using h)]; rfl
  · rw [if_neg h, if_neg (by simpa using h), app_le (by simp; omega)]; rfl
theorem ref_step {c : Campaign} {fl : List DeviceS} {l : List MarkS} (H : Cmp c fl l) {at_ S : Int} (hat : at_ ≤ 345686399999) {bs : List Int} (hR : Rch c fl l at_ S bs) (n14 : Int) (h14 : bs.length = 0 → n14 = c.At) :
    (∀ nx, nextR c fl l at_ bs = some nx → ¬ (at_ < nx ∨ (0 ≤ S ∧ S ≤ nx)) → Q_BeginsOf_l1 c fl l at_ S bs n14 (bs.length : Int) = Q_BeginsOf_l1 c fl l at_ S (bs ++ [nx]) nx ((bs ++ [nx]).length : Int)) ∧
    (FinR c fl l at_ S bs → Q_BeginsOf_l1 c fl l at_ S bs n14 (bs.length : Int) = some bs) := by
  have hc := H.c_
  have hclen := hc.len
  have hlb := H.l_
  have hsA : l.Pairwise (fun a b => a.At ≤ b.At) := H.s_.imp mO_At
  obtain ⟨r1, r2, r3⟩ := Rch_ok hc hR
  have w1 : ∀ nx : Int, w64 ((bs.length : Int) + 1) = ((bs ++ [nx]).length : Int) := fun nx => by rw [List.length_append, List.length_singleton, w64_in] <;> omega
  have key : Q_BeginsOf_b1 c fl l at_ S bs n14 (bs.length : Int) = match nextR c fl l at_ bs with
      | none => some (.inr bs)
      | some nx => if at_ < nx ∨ (0 ≤ S ∧ S ≤ nx) then some (.inr bs) else some (.inl (bs ++ [nx], nx, w64 ((bs.length : Int) + 1))) := by
    unfold Q_BeginsOf_b1
    by_cases k1 : bs.length < c.Waves.length
    · rw [if_pos (by omega)]
      by_cases k0 : bs.length = 0
      · rw [if_neg (by omega), ref_j1 c at_ S bs _ _ (by omega), h14 k0]
        unfold nextR
        rw [if_pos k0]
      · have hle := r3 k0
        have wm : w64 ((bs.length : Int) - 1) = ((bs.length - 1 : Nat) : Int) := by rw [w64_in] <;> omega
        have hli : idx bs ((bs.length - 1 : Nat) : Int) = some (lastI bs) := by
          refine idx_nat ?_
          unfold lastI
          rw [List.getLast?_eq_getElem?]
          cases hx : bs[bs.length - 1]? with
          | none => rw [List.getElem?_eq_none_iff] at hx; omega
          | some y => rfl
        rw [if_pos (by omega), wm, hli]
        simp only [Option.bind_some]
        have ht := times_loop c fl l at_ S bs (bs.length : Int) (lastI bs) hlb l.length 0 [lastI bs] (by omega) (by simp)
        rw [List.drop_zero] at ht
        rw [show (([lastI bs] : List Int) ++ (l.filter (fun m => decide (lastI bs ≤ m.At) && decide (m.At ≤ at_))).map MarkS.At) = tmL l (lastI bs) at_ from rfl] at ht
        refine Eq.trans ht ?_
        have htl := tm_len l (lastI bs) at_
        unfold Q_BeginsOf_k3
        rw [wsort _ (by omega) (tm_sorted hsA _ _)]
        simp only [Option.bind_some]
        rw [show slices_IndexFunc_int_int (tmL l (lastI bs) at_) (fun y0 => Q_BeginsOf_1x y0 fl c (bs.length : Int) l) = some (findI (allO c fl l (bs.length - 1)) (tmL l (lastI bs) at_) 0) from gIndexFunc_eq _ _ _ (fun t _ => Q1x_eq H bs.length ⟨by omega, by omega⟩ t) (by omega)]
        simp only [Option.bind_some]
        unfold nextR
        rw [if_neg k0, if_pos k1]
        rcases findI_find (allO c fl l (bs.length - 1)) (tmL l (lastI bs) at_) 0 (by omega) with ⟨f1, f2⟩ | ⟨j, t, f1, f2, f3⟩
        · rw [f1, f2, if_pos (by omega)]; rfl
        · rw [f1, f3, if_neg (by omega), Int.zero_add, idx_nat f2, wavG_idx k1]
          simp only [Option.bind_some, Option.map_some]
          have hwm := hc.wait _ (wavG_mem k1)
          have htg := tm_ge (List.mem_of_find?_eq_some f3)
          rw [w64_in (by omega) (by omega), ref_j1 c at_ S bs _ _ (by omega)]
    · rw [if_neg (by omega)]
      have : nextR c fl l at_ bs = none := by
        unfold nextR
        have := waves_pos hc
        rw [if_neg (by omega), if_neg k1]
      rw [this]; rfl
  refine ⟨fun nx hn hb => ?_, fun hF => ?_⟩
  · rw [hn] at key
    simp only at key
    rw [if_neg hb] at key
    unfold Q_BeginsOf_l1
    conv => lhs; rw [iter_eq]
    simp only
    rw [key]
    simp only [Option.bind_some, after_inl]
    rw [w1 nx]
  · unfold Q_BeginsOf_l1
    rw [iter_eq]
    simp only
    rw [key]
    cases hn : nextR c fl l at_ bs with
    | none => rfl
    | some nx => simp only; rw [if_pos (hF nx hn)]; rfl
theorem ref_reach {c : Campaign} {fl : List DeviceS} {l : List MarkS} (H : Cmp c fl l) {at_ S : Int} (hat : at_ ≤ 345686399999) {bs : List Int} (hR : Rch c fl l at_ S bs) : ∃ n14, (bs.length = 0 → n14 = c.At) ∧ Q_BeginsOf_l1 c fl l at_ S [] c.At 0 = Q_BeginsOf_l1 c fl l at_ S bs n14 (bs.length : Int) := by
  induction hR with
  | nil => exact ⟨c.At, fun _ => rfl, rfl⟩
  | snoc h hl hn ha hs ih =>
    obtain ⟨n14, i1, i2⟩ := ih
    rename_i bs nx
    refine ⟨nx, fun h => by simp at h, ?_⟩
    rw [i2]
    exact (ref_step H hat h n14 i1).1 nx hn (by omega)
theorem BeginsOf_eq {c : Campaign} {fl : List DeviceS} {l : List MarkS} (H : Cmp c fl l) {at_ S : Int} (hat : at_ ≤ 345686399999) (hS : Q_StoppedOf c fl l at_ = some S) {bs : List Int} (hR : Rch c fl l at_ S bs) (hF : FinR c fl l at_ S bs) : Q_BeginsOf c fl l at_ = some bs := by
  unfold Q_BeginsOf
  rw [hS]
  simp only [Option.bind_some]
  obtain ⟨n14, i1, i2⟩ := ref_reach H hat hR
  rw [i2]
  exact (ref_step H hat hR n14 i1).2 hF
/-! the whole way -/
theorem until_W {c : Campaign} {fl : List DeviceS} {l : List MarkS} (H : Cmp c fl l) (at_ : Int) (ha : 0 ≤ at_ ∧ at_ ≤ 345686399999) : ∃ v r n, campaign_newState c fl = some v ∧ campaign_state_until ⟨c, v.of_, v.wave_, v.open_, v.ends_, v.fails_, v.begins_, v.stopped_, v.next_, v.ar0⟩ l at_ = some r ∧
    r.stopped_ = SA c fl (l.take n) ∧ (∀ x ∈ l.take n, x.At ≤ at_) ∧ (∀ x ∈ l.drop n, at_ < x.At) ∧ Pre c fl l at_ (SA c fl (l.take n)) r.begins_ r.next_ := by
  have hc := H.c_
  have hf := H.f_
  have hfl := H.fl_
  have hlb := H.l_
  have hsA : l.Pairwise (fun a b => a.At ≤ b.At) := H.s_.imp mO_At
  have hcm := hc.mom
  obtain ⟨v, v1, v2, v3, v4⟩ := newState_SX c fl hc hf (by omega)
  have hdrop : ∀ (n : Nat) (x : MarkS), l[n]? = some x → ∀ y ∈ l.drop n, x.At ≤ y.At := by
    intro n x hx y hy
    have hd : l.drop n = x :: l.drop (n + 1) := by
      have hn := (List.getElem?_eq_some_iff.1 hx)
      rw [List.drop_eq_getElem_cons hn.1, hn.2]
    have hp := List.Pairwise.drop (i := n) hsA
    rw [hd, List.pairwise_cons] at hp
    rw [hd] at hy
    rcases List.mem_cons.1 hy with rfl | hy
    · exact Int.le_refl _
    · exact hp.1 y hy
  have hgapL : ∀ (n : Nat) (T T' : Int), (∀ x ∈ l.take n, x.At ≤ T) → (∀ x ∈ l.drop n, T' < x.At) → ∀ x ∈ l, ¬ (T < x.At ∧ x.At ≤ T') := by
    intro n T T' g1 g2 x hx hh
    rw [← List.take_append_drop n l] at hx
    rcases List.mem_append.1 hx with hx | hx
    · have := g1 x hx; omega
    · have := g2 x hx; omega
  have hself : ∀ (T S : Int), Srel T S S := fun T S => by unfold Srel; omega
  have key := until_gen c v l at_ (by omega) (fun x hx => (H.m_ x hx).mom) hsA
    (fun s n T => SX c fl s (l.take n) ∧ (∀ x ∈ l.take n, x.At ≤ T) ∧ (∀ x ∈ l.drop n, T < x.At) ∧ Pre c fl l T (SA c fl (l.take n)) s.begins_ s.next_ ∧ -1 ≤ T)
    (fun s n now => SX c fl s (l.take n) ∧ (∀ x ∈ l.take n, x.At ≤ now) ∧ (∃ S0, Srel (now - 1) S0 (SA c fl (l.take n)) ∧ Pre c fl l (now - 1) S0 s.begins_ s.next_) ∧ 0 ≤ now)
    (fun r n => r.stopped_ = SA c fl (l.take n) ∧ (∀ x ∈ l.take n, x.At ≤ at_) ∧ (∀ x ∈ l.drop n, at_ < x.At) ∧ Pre c fl l at_ (SA c fl (l.take n)) r.begins_ r.next_)
    v2.c_ ?_ ?_ ?_ ?_ (-1) ⟨by rw [List.take_zero]; exact v2, by simp, fun x hx => by have := (H.m_ x (List.mem_of_mem_drop hx)).mom; omega, ?_, by omega⟩ ⟨by omega, fun x hx => by have := (H.m_ x hx).mom; omega⟩
  · obtain ⟨r, r1, n, _, r2⟩ := key
    refine ⟨v, r, n, v1, ?_, r2⟩
    rw [← v2.c_]
    exact r1
  · -- before a moment
    rintro s n T x _ ⟨p1, p2, p3, p4, p5⟩ hx hT hxa
    have hx0 := (H.m_ x (List.mem_of_getElem? hx)).mom
    have hgt : ∀ y ∈ l.drop n, x.At - 1 < y.At := fun y hy => by have := hdrop n x hx y hy; omega
    refine (begin_adv H p1 (T := T) (T' := x.At - 1) (by omega) (by omega) p5 (fun y hy => by have := p2 y hy; omega) hgt (.inl (hgapL n T (x.At - 1) p2 hgt)) (hself _ _) p4).mono (fun r hr => ⟨hr.1, hr.2.1, fun y hy => by have := p2 y hy; omega, ⟨_, hself _ _, hr.2.2⟩, hx0.1⟩)
  · -- a mark
    rintro s n x now _ ⟨p1, p2, ⟨S0, p3, p4⟩, p5⟩ hx he hna
    have ht : l.take (n + 1) = l.take n ++ [x] := by rw [List.take_add_one, hx]; rfl
    have hnl : (l.take n).length ≤ l.length := by rw [List.length_take]; omega
    refine (mark_SX hc hf (by omega) (by omega) p1 x).mono (fun r hr => ?_)
    refine ⟨hr.1.c_, by rw [ht]; exact hr.1, fun y hy => ?_, ⟨S0, ?_, by rw [hr.2.1, hr.2.2]; exact p4⟩, p5⟩
    · rw [ht] at hy
      rcases List.mem_append.1 hy with hy | hy
      · exact p2 y hy
      · rw [List.mem_singleton] at hy; subst hy; omega
    · rw [ht, SA_snoc]
      unfold Srel at p3 ⊢
      split <;> omega
  · -- at a moment
    rintro s n now _ ⟨p1, p2, ⟨S0, p3, p4⟩, p5⟩ hd hna
    exact (begin_adv H p1 (T := now - 1) (T' := now) (by omega) (by omega) (by omega) p2 hd (.inr (by omega)) p3 p4).mono (fun r hr => ⟨hr.1, hr.2.1, p2, hd, hr.2.2, by omega⟩)
  · -- at the end
    rintro s n T _ ⟨p1, p2, p3, p4, p5⟩ hd hTa
    exact (begin_adv H p1 (T := T) (T' := at_) hTa ha.2 p5 (fun y hy => by have := p2 y hy; omega) hd (.inl (hgapL n T at_ p2 hd)) (hself _ _) p4).mono (fun r hr => ⟨hr.1, hr.2.1.sp, fun y hy => by have := p2 y hy; omega, hd, hr.2.2⟩)
  · -- the first state
    rw [List.take_zero, v3, v4]
    refine ⟨.nil, ?_, fun nx hn => ?_⟩
    · unfold nextR; rw [if_pos List.length_nil]; rfl
    · unfold nextR at hn
      rw [if_pos List.length_nil] at hn
      have := Option.some.inj hn
      left; omega
theorem flt_R {c : Campaign} {r : Int} (hR : r = 0 → CRight c) {fl : List DeviceS} {l : List MarkS} {at_ : Int} (h : fltV r fl l at_ = 0) : Cmp c fl l ∧ 0 ≤ at_ ∧ at_ ≤ 345686399999 := by
  have h0 := h
  obtain ⟨g1, g2, g3, g4⟩ := flt_0 h
  obtain ⟨hf, hfl⟩ := chkD_R g2
  obtain ⟨m1, m2, m3⟩ := chkM_R g3
  refine ⟨⟨hR g1, hf, hfl, m1, m2, m3⟩, g4, ?_⟩
  unfold fltV at h0
  simp only [orL, g1, g2, g3] at h0
  unfold momF at h0
  cases hm : momB at_
  · simp [hm] at h0
  · unfold momB at hm
    simp only [Bool.and_eq_true, decide_eq_true_eq] at hm
    exact hm.2
theorem Waves_eq {c : Campaign} {r : Int} (hr : campaign_CheckCampaign c = some r) (hR : r = 0 → CRight c) (fl : List DeviceS) (l : List MarkS) (at_ : Int) (hb : (fl.length * l.length : Int) ≤ 100000) :
    (fltV r fl l at_ ≠ 0 → campaign_Begins c fl l at_ = some ([], fltV r fl l at_) ∧ campaign_Stopped c fl l at_ = some (0, fltV r fl l at_)) ∧
    (fltV r fl l at_ = 0 → ∃ bs S, campaign_Begins c fl l at_ = some (bs, 0) ∧ campaign_Stopped c fl l at_ = some (S, 0) ∧ Q_BeginsOf c fl l at_ = some bs ∧ Q_StoppedOf c fl l at_ = some S ∧ bs.length ≤ 20) := by
  unfold campaign_Begins campaign_Stopped
  rw [fault_eq hr]
  simp only [Option.bind_some]
  refine ⟨fun h => ⟨by rw [if_pos h], by rw [if_pos h]⟩, fun h => ?_⟩
  obtain ⟨H, ha⟩ := flt_R hR h
  obtain ⟨v, s, n, v1, v2, v3, v4, v5, v6⟩ := until_W H at_ ha
  rw [if_neg (by simpa using h), if_neg (by simpa using h), v1]
  simp only [Option.bind_some]
  rw [v2]
  simp only [Option.bind_some]
  have hS := StoppedOf_eq H at_ n v4 v5 hb
  have hk := (Rch_ok H.c_ v6.r).1
  have hcl := H.c_.len
  exact ⟨s.begins_, s.stopped_, rfl, rfl, BeginsOf_eq H ha.2 hS v6.r v6.f, by rw [v3]; exact hS, by omega⟩
theorem WavesBegin_plain (L : List Int) : L_WavesBegin L = some true := by
  have key : Ok (L_WavesBegin L) (fun r => r = true) := by
    unfold L_WavesBegin
    refine Ok.gen (Campaign_k (s := ⟨L, 0⟩) (K := 1000) ⟨by simp, by simp⟩ (by omega)) (fun c s1 hc q1 => ?_)
    refine Ok.gen (Fleet_k q1 (by omega)) (fun fl s2 hf q2 => ?_)
    refine Ok.gen (Pick_k q2 (by omega) (by simp) (by simp)) (fun at_ s3 _ q3 => ?_)
    refine Ok.gen (Range_k q3 (by omega) (by omega) (by omega) (by omega)) (fun m s4 hm q4 => ?_)
    dsimp only
    refine Ok.gen (Marks_k q4 (by omega) (by omega) hc (by omega)) (fun l s5 hl q5 => ?_)
    have hl20 : l.length ≤ 20 := by have := hl.1; omega
    have hbn : fl.length * l.length ≤ 6 * 20 := Nat.mul_le_mul hf hl20
    have hb : (fl.length * l.length : Int) ≤ 100000 := by
      have : ((fl.length * l.length : Nat) : Int) = (fl.length * l.length : Int) := by push_cast; rfl
      omega
    dsimp only
    obtain ⟨r, r1, r2⟩ := Campaign_ends c
    obtain ⟨d1, d2⟩ := Waves_eq r1 r2 fl l at_ hb
    by_cases h : fltV r fl l at_ = 0
    · obtain ⟨bs, S, e1, e2, e3, e4, e5⟩ := d2 h
      rw [e1, e2, Campaign_chk, r1, FleetFault_eq, MarksFault_eq l hl.2]
      simp only [Option.bind_some]
      rw [errs_eq]
      simp only [Option.bind_some]
      rw [if_neg (by simpa using h)]
      simp only [if_true]
      rw [e3]
      simp only [Option.bind_some]
      rw [show slices_Equal_int_int bs bs = some (decide (bs = bs)) from gEqual_eq bs bs (by omega)]
      simp only [Option.bind_some, decide_true, if_true]
      rw [e4]
      simp only [Option.bind_some, if_true]
      rw [versioned_eq]
      exact Ok.ret rfl
    · obtain ⟨e1, e2⟩ := d1 h
      rw [e1, e2, Campaign_chk, r1, FleetFault_eq, MarksFault_eq l hl.2]
      simp only [Option.bind_some]
      rw [errs_eq]
      simp only [Option.bind_some]
      rw [if_pos h]
      simp only [if_true, List.length_nil, Int.natCast_zero, versioned_eq, Option.bind_some]
      exact Ok.ret rfl
  obtain ⟨r, h1, rfl⟩ := key
  exact h1
end Go.Beacon

