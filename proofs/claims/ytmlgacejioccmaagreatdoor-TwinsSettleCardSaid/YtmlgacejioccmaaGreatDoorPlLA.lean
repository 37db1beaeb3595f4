/- Plain facts on what the functions compute. No program in sight. -/
import Derived.Test.YtmlgacejioccmaaGreatDoorSttP
import Derived.Test.YtmlgacejioccmaaGreatDoorPlBA
import Derived.Lib.MapLaws
import Derived.Lib.ValidLaws
import Derived.Lib.TrimUEq
/- Plain facts of the streams that make inputs: each ends, and what it hands out is within bounds. No program in sight. -/
set_option linter.unusedVariables false
set_option linter.unusedSimpArgs false
namespace Go.Beacon
open Go Go.Eng

abbrev Stm := Fleetmake_Stream
/-- At least k more numbers can be drawn. -/
def SOk (s : Stm) (k : Int) : Prop := 0 ≤ s.at_ ∧ s.at_ + k ≤ 4611686018427387904
theorem SOk.less {s : Stm} {k k' : Int} (h : SOk s k) (hk : k' ≤ k) : SOk s k' := ⟨h.1, by have := h.2; omega⟩
def Gen {α : Type} (m : Option (α × Stm)) (k : Int) (P : α → Prop) : Prop := ∃ v s', m = some (v, s') ∧ P v ∧ SOk s' k
theorem Gen.bind {α β : Type} {m : Option (α × Stm)} {k k' : Int} {P : α → Prop} {Q : β → Prop} {f : α × Stm → Option (β × Stm)} (h : Gen m k P) (hf : ∀ v s', P v → SOk s' k → Gen (f (v, s')) k' Q) : Gen (m.bind f) k' Q := by
  obtain ⟨v, s', rfl, h1, h2⟩ := h
  exact hf v s' h1 h2
theorem Gen.ret {α : Type} {v : α} {s : Stm} {k : Int} {P : α → Prop} (h1 : P v) (h2 : SOk s k) : Gen (some (v, s)) k P := ⟨v, s, rfl, h1, h2⟩
theorem Gen.mono {α : Type} {m : Option (α × Stm)} {k k' : Int} {P Q : α → Prop} (h : Gen m k P) (hk : k' ≤ k) (hp : ∀ v, P v → Q v) : Gen m k' Q := by
  obtain ⟨v, s', e, h1, h2⟩ := h
  exact ⟨v, s', e, hp v h1, h2.less hk⟩

theorem Below_ok (x : Int) {n : Int} (h1 : 1 ≤ n) (h2 : n ≤ 4611686018427387904) : ∃ v, Below x n = some v ∧ 0 ≤ v ∧ v < n := by
  unfold Below Below_j1
  rw [if_neg (by omega), rem_ne (by omega)]
  have a1 := Int.lt_tmod_of_pos x (show 0 < n by omega)
  have a2 := Int.tmod_lt_of_pos x (show 0 < n by omega)
  simp only [Option.bind_some]
  split
  · exact ⟨_, rfl, by rw [w64_in] <;> omega, by rw [w64_in] <;> omega⟩
  · exact ⟨_, rfl, by omega, by omega⟩

theorem Next_ok {s : Stm} {n k : Int} (hs : SOk s (k + 1)) (h1 : 1 ≤ n) (h2 : n ≤ 4611686018427387904) (hk : 0 ≤ k) : Gen (Stream_Next s n) k (fun v => 0 ≤ v ∧ v < n) := by
  obtain ⟨a1, a2⟩ := hs
  have e1 : w64 (s.at_ + 1) = s.at_ + 1 := by rw [w64_in] <;> omega
  have e2 : w64 (s.at_ + 1 - 1) = s.at_ := by rw [w64_in] <;> omega
  unfold Stream_Next
  split
  · obtain ⟨v, hv, h3, h4⟩ := Below_ok (w64 (w64 (s.at_ + 1) * 7919)) h1 h2
    rw [hv]
    exact Gen.ret ⟨h3, h4⟩ ⟨by show 0 ≤ w64 (s.at_ + 1); omega, by show w64 (s.at_ + 1) + k ≤ _; omega⟩
  · rename_i hl
    have hl' : (0 : Int) < s.L.length := by omega
    rw [e1, e2, rem_pos hl' a1, quo_ne (by omega)]
    simp only [Option.bind_some]
    obtain ⟨x, hx, _, _⟩ := idx_lt s.L (i := s.at_ % s.L.length) (Int.emod_nonneg _ (by omega)) (Int.emod_lt_of_pos _ hl')
    rw [hx]
    simp only [Option.bind_some]
    obtain ⟨u, hu, _, _⟩ := Below_ok x (n := 1073741824) (by omega) (by omega)
    rw [hu]
    simp only [Option.bind_some]
    obtain ⟨v, hv, h3, h4⟩ := Below_ok (w64 (u + w64 (w64 (s.at_.tdiv s.L.length) * w64 (7919 + s.at_ % s.L.length)))) h1 h2
    rw [hv]
    exact Gen.ret ⟨h3, h4⟩ ⟨by simp only; omega, by simp only; omega⟩

theorem Pick_ok {s : Stm} {l : List Int} {k : Int} (hs : SOk s (k + 1)) (h1 : l ≠ []) (h2 : l.length ≤ 1000) (hk : 0 ≤ k) : Gen (Stream_Pick s l) k (fun v => v ∈ l) := by
  unfold Stream_Pick
  have hl : 0 < l.length := List.length_pos_iff.2 h1
  refine Gen.bind (Next_ok hs (by omega) (by omega) hk) (fun v s' hv hs' => ?_)
  obtain ⟨x, hx, hm, _⟩ := idx_lt l hv.1 hv.2
  simp only [hx, Option.bind_some]
  exact Gen.ret hm hs'
theorem Range_ok {s : Stm} {a b k : Int} (hs : SOk s (k + 1)) (hab : a ≤ b) (ha : -1152921504606846976 ≤ a) (hb : b ≤ 1152921504606846976) (hk : 0 ≤ k) : Gen (Stream_Range s a b) k (fun v => a ≤ v ∧ v ≤ b) := by
  unfold Stream_Range
  have e1 : w64 (b - a) = b - a := by rw [w64_in] <;> omega
  have e2 : w64 (b - a + 1) = b - a + 1 := by rw [w64_in] <;> omega
  rw [if_neg (by omega), e1, e2]
  refine Gen.bind (Next_ok hs (by omega) (by omega) hk) (fun v s' hv hs' => ?_)
  refine Gen.ret ?_ hs'
  simp only
  rw [w64_in] <;> omega
theorem Flip_ok {s : Stm} {n k : Int} (hs : SOk s (k + 1)) (h1 : 1 ≤ n) (h2 : n ≤ 4611686018427387904) (hk : 0 ≤ k) : Gen (Stream_Flip s n) k (fun _ => True) := by
  unfold Stream_Flip
  exact Gen.bind (Next_ok hs h1 h2 hk) (fun v s' hv hs' => Gen.ret trivial hs')
theorem Some_ok {s : Stm} {l : List Str} {k : Int} (hs : SOk s (k + 1)) (h1 : l ≠ []) (h2 : l.length ≤ 1000) (hk : 0 ≤ k) : Gen (Stream_Some s l) k (fun v => v ∈ l) := by
  unfold Stream_Some
  have hl : 0 < l.length := List.length_pos_iff.2 h1
  refine Gen.bind (Next_ok hs (by omega) (by omega) hk) (fun v s' hv hs' => ?_)
  obtain ⟨x, hx, hm, _⟩ := idx_lt l hv.1 hv.2
  simp only [hx, Option.bind_some]
  exact Gen.ret hm hs'
theorem Odd_ok {s : Stm} {a b k : Int} (hs : SOk s (k + 2)) (hab : a ≤ b) (ha : -1099511627776 ≤ a) (hb : b ≤ 1099511627776) (hk : 0 ≤ k) : Gen (Stream_Odd s a b) k (fun v => -1099511627777 ≤ v ∧ v ≤ 1099511627777) := by
  unfold Stream_Odd
  refine Gen.bind (Flip_ok (k := k + 1) (hs.less (by omega)) (by omega) (by omega) (by omega)) (fun v s' hv hs' => ?_)
  simp only
  split
  · refine Gen.bind (Pick_ok hs' (by simp) (by simp) hk) (fun v s' hv hs' => Gen.ret ?_ hs')
    have e1 : w64 (a - 1) = a - 1 := by rw [w64_in] <;> omega
    have e2 : w64 (b + 1) = b + 1 := by rw [w64_in] <;> omega
    rw [e1, e2] at hv
    simp only [List.mem_cons, List.not_mem_nil, or_false] at hv
    simp only; omega
  · refine Gen.bind (Range_ok hs' hab (by omega) (by omega) hk) (fun v s' hv hs' => Gen.ret ?_ hs')
    simp only; omega
end Go.Beacon

/- Plain facts of keys: the program's check and the reference's. No program in sight. -/
set_option linter.unusedVariables false
set_option linter.unusedSimpArgs false
namespace Go.Beacon
open Go Go.Eng

theorem Out_eq (n lo hi : Int) : base_Out n lo hi = (decide (n < lo) || decide (hi < n)) := rfl
theorem Qin_eq (n lo hi : Int) : Q_in n lo hi = (decide (lo ≤ n) && decide (n ≤ hi)) := rfl
/-! keys -/
def okN (n : Nat) : Bool := (decide (97 ≤ n) && decide (n ≤ 122)) || (decide (48 ≤ n) && decide (n ≤ 57)) || decide (n = 45) || decide (n = 95)
def keyB : Str → Bool
  | [] => false
  | c :: r => decide ((c :: r).length ≤ 40) && (decide (97 ≤ c.toNat) && decide (c.toNat ≤ 122)) && (c :: r).all (fun c => okN c.toNat)
theorem keyB_cons (c : UInt8) (r : Str) : keyB (c :: r) = (decide ((c :: r).length ≤ 40) && (decide (97 ≤ c.toNat) && decide (c.toNat ≤ 122)) && (c :: r).all (fun c => okN c.toNat)) := rfl
theorem Key_loop (s : Str) (hl : s.length ≤ 40) : base_Key_l1 s 0 = some (s.all (fun c => okN c.toNat)) := by
  unfold base_Key_l1
  rw [iter_find s (fun x : Int => base_Key_b1 s x) (fun c => if okN c.toNat = true then none else some false) true (by omega), findE_bool]
  · intro i c h0 h1 hc
    have hB : (if (97 : Int) ≤ (c.toNat : Int) then if (c.toNat : Int) ≤ (122 : Int) then !true else if (48 : Int) ≤ (c.toNat : Int) then if (c.toNat : Int) ≤ (57 : Int) then !true else if (c.toNat : Int) = (45 : Int) then !true else decide (¬ ((c.toNat : Int) = (95 : Int))) else if (c.toNat : Int) = (45 : Int) then !true else decide (¬ ((c.toNat : Int) = (95 : Int))) else if (48 : Int) ≤ (c.toNat : Int) then if (c.toNat : Int) ≤ (57 : Int) then !true else if (c.toNat : Int) = (45 : Int) then !true else decide (¬ ((c.toNat : Int) = (95 : Int))) else if (c.toNat : Int) = (45 : Int) then !true else decide (¬ ((c.toNat : Int) = (95 : Int)))) = !okN c.toNat := by
      unfold okN
      rw [Bool.eq_iff_iff]
      repeat' split
      all_goals simp
      all_goals omega
    rw [base_Key_b1, if_pos h1, hc]
    simp only [Option.bind_some]
    rw [hB]
    unfold base_Key_j2
    rw [w64_in (by omega) (by omega)]
    cases okN c.toNat <;> rfl
  · rw [base_Key_b1, if_neg (by omega)]; rfl
theorem Key_eq (s : Str) : base_Key s = some (keyB s) := by
  unfold base_Key base_Key_j1
  cases s with
  | nil => simp [keyB]
  | cons c r =>
    rw [if_neg (by simp)]
    have hc : idx (c :: r) 0 = some c := rfl
    rw [hc]
    simp only [Option.bind_some]
    by_cases hl : (c :: r).length ≤ 40
    · rw [if_neg (by omega), Key_loop _ hl, keyB_cons]
      by_cases h1 : (c.toNat : Int) < 97
      · rw [if_pos h1]
        have : decide (97 ≤ c.toNat) = false := by simp; omega
        rw [this]; simp
      · rw [if_neg h1]
        have e1 : decide (97 ≤ c.toNat) = true := by simp; omega
        by_cases h2 : (122 : Int) < c.toNat
        · rw [if_pos (by simpa using h2)]
          have : decide (c.toNat ≤ 122) = false := by simp; omega
          rw [this]; simp
        · rw [if_neg (by simpa using h2)]
          have : decide (c.toNat ≤ 122) = true := by simp; omega
          rw [e1, this, decide_eq_true hl]; simp
    · rw [if_pos (by omega), keyB_cons, decide_eq_false hl]; simp
theorem chars_fin : ∀ n : Fin 256, decide (UInt8.ofNat n.val ∈ ([97, 98, 99, 100, 101, 102, 103, 104, 105, 106, 107, 108, 109, 110, 111, 112, 113, 114, 115, 116, 117, 118, 119, 120, 121, 122, 48, 49, 50, 51, 52, 53, 54, 55, 56, 57, 45, 95] : List UInt8)) = okN n.val := by decide +kernel
theorem low_fin : ∀ n : Fin 256, decide (UInt8.ofNat n.val ∈ ([97, 98, 99, 100, 101, 102, 103, 104, 105, 106, 107, 108, 109, 110, 111, 112, 113, 114, 115, 116, 117, 118, 119, 120, 121, 122] : List UInt8)) = (decide (97 ≤ n.val) && decide (n.val ≤ 122)) := by decide +kernel
theorem u8_fin {p : UInt8 → Bool} {q : Nat → Bool} (h : ∀ n : Fin 256, p (UInt8.ofNat n.val) = q n.val) (c : UInt8) : p c = q c.toNat := by
  have := h ⟨c.toNat, c.toNat_lt⟩
  simpa using this
theorem only_eq (s chars : Str) (hl : (s.length : Int) ≤ 4611686018427387904) : Q_only s chars = some (s.all (fun c => decide (c ∈ chars))) := by
  unfold Q_only Q_only_l1
  rw [iter_find s (fun x : Int => Q_only_b1 s chars x) (fun c => if decide (c ∈ chars) = true then none else some false) true hl, findE_bool]
  · intro i c h0 h1 hc
    rw [Q_only_b1, if_pos h1, hc]
    simp only [Option.bind_some, indexByteI, toU8]
    rw [w64_in (by omega) (by omega)]
    by_cases hm : c ∈ chars
    · rw [if_neg (fun h => (indexByte_nonneg _ _).1 h hm)]; simp [hm]
    · rw [if_pos ((indexByte_nonneg _ _).2 hm)]; simp [hm]
  · rw [Q_only_b1, if_neg (by omega)]; rfl
theorem QKey_eq (s : Str) : Q_Key s = some (keyB s) := by
  unfold Q_Key Q_Key_j1
  rw [Qin_eq]
  cases s with
  | nil => rfl
  | cons c r =>
    have hs : slc (c :: r) 0 1 = some [c] := by rw [slc_in (by omega) (by omega) (by simp; omega)]; simp
    rw [hs]
    simp only [Option.bind_some]
    by_cases hl : (c :: r).length ≤ 40
    · rw [if_pos (by simp; simp at hl; omega), only_eq _ _ (by simp)]
      simp only [Option.bind_some, List.all_cons, List.all_nil, Bool.and_true]
      rw [only_eq _ _ (by omega)]
      simp only [Option.bind_some]
      rw [u8_fin (p := fun c => decide (c ∈ ([97, 98, 99, 100, 101, 102, 103, 104, 105, 106, 107, 108, 109, 110, 111, 112, 113, 114, 115, 116, 117, 118, 119, 120, 121, 122] : List UInt8))) (q := fun n => decide (97 ≤ n) && decide (n ≤ 122)) low_fin c]
      have e : (c :: r).all (fun c => decide (c ∈ ([97, 98, 99, 100, 101, 102, 103, 104, 105, 106, 107, 108, 109, 110, 111, 112, 113, 114, 115, 116, 117, 118, 119, 120, 121, 122, 48, 49, 50, 51, 52, 53, 54, 55, 56, 57, 45, 95] : List UInt8))) = (c :: r).all (fun c => okN c.toNat) := by
        congr 1; funext c
        exact u8_fin (p := fun c => decide (c ∈ ([97, 98, 99, 100, 101, 102, 103, 104, 105, 106, 107, 108, 109, 110, 111, 112, 113, 114, 115, 116, 117, 118, 119, 120, 121, 122, 48, 49, 50, 51, 52, 53, 54, 55, 56, 57, 45, 95] : List UInt8))) chars_fin c
      rw [e, keyB_cons, decide_eq_true hl, Bool.true_and]
      split
      · rename_i h; rw [h]; simp
      · rename_i h
        rw [Bool.not_eq_true] at h
        rw [h]; simp
    · rw [if_neg (by simp; simp at hl; omega), keyB_cons, decide_eq_false hl]; rfl

theorem CompareI_eq (a b : Int) : cmp_Compare_int a b = cmpI a b := by
  unfold cmp_Compare_int cmp_isNaN_int cmpI; simp
theorem Moment_eq (n : Int) : base_Moment n = (decide (0 ≤ n) && decide (n ≤ 345686399999)) := by
  unfold base_Moment
  rw [Out_eq, Bool.eq_iff_iff]
  simp
theorem QMoment_eq (n : Int) : Q_Moment n = (decide (0 ≤ n) && decide (n ≤ 345686399999)) := rfl
end Go.Beacon

/- Plain facts: loops by a measure, products within bounds, quotients rounded down. No program in sight. -/
set_option linter.unusedVariables false
set_option linter.unusedSimpArgs false
namespace Go.Beacon
open Go Go.Eng

/-- A loop whose rounds keep something and make a number smaller ends; what its last round tells holds. -/
theorem iter_inv {S A : Type} (f : S → Option (S ⊕ A)) (m : S → Nat) (Inv : S → Prop) (R : A → Prop)
    (h : ∀ s, Inv s → (∃ s', f s = some (.inl s') ∧ Inv s' ∧ m s' < m s) ∨ (∃ a, f s = some (.inr a) ∧ R a)) : ∀ s, Inv s → ∃ a, iter f s = some a ∧ R a := by
  have key : ∀ (n : Nat) s, m s ≤ n → Inv s → ∃ a, iter f s = some a ∧ R a := by
    intro n
    induction n with
    | zero =>
      intro s hm hi
      rcases h s hi with ⟨s', _, _, h3⟩ | ⟨a, h1, h2⟩
      · omega
      · exact ⟨a, by rw [iter_eq, h1]; rfl, h2⟩
    | succ n ih =>
      intro s hm hi
      rcases h s hi with ⟨s', h1, h2, h3⟩ | ⟨a, h1, h2⟩
      · obtain ⟨a, h4, h5⟩ := ih s' (by omega) h2
        exact ⟨a, by rw [iter_eq, h1]; simpa using h4, h5⟩
      · exact ⟨a, by rw [iter_eq, h1]; rfl, h2⟩
  exact fun s hi => key (m s) s (Nat.le_refl _) hi
/-- The same, for a result that may be missing. -/
theorem iter_to {S A : Type} (f : S → Option (S ⊕ A)) (m : S → Nat) (Inv : S → Prop) (r : Option A)
    (h : ∀ s, Inv s → (∃ s', f s = some (.inl s') ∧ Inv s' ∧ m s' < m s) ∨ f s = r.map .inr) : ∀ s, Inv s → iter f s = r := by
  have key : ∀ (n : Nat) s, m s ≤ n → Inv s → iter f s = r := by
    intro n
    induction n with
    | zero =>
      intro s hm hi
      rcases h s hi with ⟨s', _, _, h3⟩ | h1
      · omega
      · rw [iter_eq, h1, map_inr_after]
    | succ n ih =>
      intro s hm hi
      rcases h s hi with ⟨s', h1, h2, h3⟩ | h1
      · rw [iter_eq, h1]; simpa using ih s' (by omega) h2
      · rw [iter_eq, h1, map_inr_after]
  exact fun s hi => key (m s) s (Nat.le_refl _) hi
theorem u64_in {x : Int} (h0 : 0 ≤ x) (h1 : x ≤ 9223372036854775807) : IntKind.u64.wrap x = x := by
  unfold IntKind.wrap
  simp [IntKind.bits, IntKind.signed]
  omega
theorem First_eq (xs : List Int) (h : (xs.length : Int) ≤ 4611686018427387904) : base_First xs = some (orL xs) := gOr_eq xs h
theorem orL3 (x y z : Int) : orL [x, y, z] = if orL [x, y] ≠ 0 then orL [x, y] else z := by
  by_cases h1 : x = 0 <;> by_cases h2 : y = 0 <;> by_cases h3 : z = 0 <;> simp [orL, h1, h2, h3]
theorem orL2 (x y : Int) : orL [x, y] = if x ≠ 0 then x else y := by
  by_cases h1 : x = 0 <;> by_cases h2 : y = 0 <;> simp [orL, h1, h2]
theorem orL2_zero {x y : Int} (h : orL [x, y] = 0) : x = 0 ∧ y = 0 := by
  by_cases h1 : x = 0
  · by_cases h2 : y = 0
    · exact ⟨h1, h2⟩
    · simp [orL, h1, h2] at h
  · simp [orL, h1] at h
end Go.Beacon

/- Strings cut at one byte. No program in sight. -/
set_option linter.unusedVariables false
set_option linter.unusedSimpArgs false
namespace Go.Beacon
open Go Go.Eng

/-- A string cut at each byte c. -/
def splitC (c : UInt8) : Str → List Str
  | [] => [[]]
  | b :: r => if b = c then [] :: splitC c r else match splitC c r with
    | [] => [[b]]
    | h :: t => (b :: h) :: t
theorem splitC_ne (c : UInt8) : ∀ s, splitC c s ≠ []
  | [] => by simp [splitC]
  | b :: r => by
    unfold splitC
    split
    · simp
    · split <;> simp
theorem splitC_length (c : UInt8) : ∀ s, (splitC c s).length ≤ s.length + 1
  | [] => by simp [splitC]
  | b :: r => by
    have ih := splitC_length c r
    unfold splitC
    split
    · simp; omega
    · split
      · simp
      · rename_i h t e; rw [e] at ih; simp at ih ⊢; omega
theorem split_C (c : UInt8) : ∀ s, Lib.split s [c] = splitC c s
  | [] => rfl
  | b :: r => by
    have ih := split_C c r
    unfold Lib.split at ih ⊢
    unfold splitC
    by_cases hb : b = c
    · subst hb
      have hix : Lib.index (b :: r) [b] = 0 := by rw [Lib.index]; simp [List.isPrefixOf]
      rw [if_pos rfl, Lib.count_cons_eq, Nat.add_comm, Lib.splitK, hix, ← ih]
      simp
    · rw [if_neg hb, Lib.count_cons_ne b c r hb, ← ih]
      have hp : ([c] : List UInt8).isPrefixOf (b :: r) = false := by simp [List.isPrefixOf, Ne.symm hb]
      have hix : Lib.index (b :: r) [c] = if Lib.index r [c] == -1 then -1 else Lib.index r [c] + 1 := by rw [Lib.index, hp]; simp
      by_cases hm : Lib.index r [c] = -1
      · rw [Lib.count_miss hm]; rfl
      · have hge := Lib.index_ge r [c]
        obtain ⟨j, hj⟩ : ∃ j : Nat, Lib.index r [c] = j := ⟨(Lib.index r [c]).toNat, by omega⟩
        have hix' : Lib.index (b :: r) [c] = ((j + 1 : Nat) : Int) := by rw [hix, if_neg (fun e => hm (beq_iff_eq.1 e)), hj]; omega
        rw [Lib.count_hit (by simp) hj, Nat.add_comm]
        have n1 : ¬ ((((j + 1 : Nat) : Int) == -1) = true) := fun h => by have := beq_iff_eq.1 h; omega
        have n2 : ¬ ((((j : Nat) : Int) == -1) = true) := fun h => by have := beq_iff_eq.1 h; omega
        simp only [Lib.splitK, hix', hj, if_neg n1, if_neg n2]
        simp [List.take_succ_cons]
/-- strings.Split at one byte. -/
theorem splitO_eq {s : Str} {c : UInt8} (h : s.length ≤ 1000000000) : splitO s [c] = some (splitC c s) := by
  unfold splitO
  rw [if_pos ⟨by omega, by simp⟩]
  congr 1
  have h1 := Lib.splitB_data ⟨#[c]⟩ 0 (Lib.countB ⟨s.toArray⟩ ⟨#[c]⟩) ⟨s.toArray⟩
  rw [← split_C]
  exact h1
end Go.Beacon

/- Names: keys with points between. No program in sight. -/
set_option linter.unusedVariables false
set_option linter.unusedSimpArgs false
namespace Go.Beacon
open Go Go.Eng

/-- A string cut at the first byte c. -/
def cut1 (c : UInt8) : Str → Str × Str × Bool
  | [] => ([], [], false)
  | b :: r => if b = c then ([], r, true) else (b :: (cut1 c r).1, (cut1 c r).2.1, (cut1 c r).2.2)
theorem cut1_miss (c : UInt8) : ∀ s, (cut1 c s).2.2 = false → (cut1 c s).1 = s ∧ (cut1 c s).2.1 = []
  | [] => fun _ => ⟨rfl, rfl⟩
  | b :: r => by
    have ih := cut1_miss c r
    unfold cut1
    split
    · intro h; cases h
    · intro h; have := ih h; simp [this]
theorem cut_C (c : UInt8) : ∀ s, Lib.cut s [c] = cut1 c s
  | [] => rfl
  | b :: r => by
    have ih := cut_C c r
    unfold Lib.cut at ih ⊢
    unfold cut1
    by_cases hb : b = c
    · subst hb
      have hix : Lib.index (b :: r) [b] = 0 := by rw [Lib.index]; simp [List.isPrefixOf]
      rw [if_pos rfl, hix]; simp
    · rw [if_neg hb, ← ih]
      have hp : ([c] : List UInt8).isPrefixOf (b :: r) = false := by simp [List.isPrefixOf, Ne.symm hb]
      have hix : Lib.index (b :: r) [c] = if Lib.index r [c] == -1 then -1 else Lib.index r [c] + 1 := by rw [Lib.index, hp]; simp
      by_cases hm : Lib.index r [c] = -1
      · rw [hix, hm]; simp
      · have hge := Lib.index_ge r [c]
        have hn : ¬ ((Lib.index r [c] == -1) = true) := fun e => hm (beq_iff_eq.1 e)
        obtain ⟨j, hj⟩ : ∃ j : Nat, Lib.index r [c] = j := ⟨(Lib.index r [c]).toNat, by omega⟩
        have hix' : Lib.index (b :: r) [c] = ((j + 1 : Nat) : Int) := by rw [hix, if_neg hn, hj]; omega
        rw [hix', hj, if_pos (by omega), if_pos (by omega)]
        simp
theorem cutO_eq {s : Str} {c : UInt8} (h : s.length ≤ 1000000000) : cutO s [c] = some (cut1 c s) := by
  unfold cutO
  rw [if_pos (by omega), cut_C]
theorem split_cut (c : UInt8) : ∀ s, splitC c s = if (cut1 c s).2.2 = true then (cut1 c s).1 :: splitC c (cut1 c s).2.1 else [s]
  | [] => rfl
  | b :: r => by
    have ih := split_cut c r
    have e1 : splitC c (b :: r) = (if b = c then [] :: splitC c r else match splitC c r with
      | [] => [[b]]
      | h :: t => (b :: h) :: t) := rfl
    rw [e1]
    unfold cut1
    by_cases hb : b = c
    · rw [if_pos hb, if_pos hb]; rfl
    · rw [if_neg hb, if_neg hb, ih]
      by_cases hc : (cut1 c r).2.2 = true
      · simp [hc]
      · simp [hc]
theorem cut1_len (c : UInt8) : ∀ s, (cut1 c s).1.length ≤ s.length ∧ (cut1 c s).2.1.length ≤ s.length
  | [] => ⟨Nat.le_refl _, Nat.le_refl _⟩
  | b :: r => by
    have ih := cut1_len c r
    unfold cut1
    split
    · simp
    · simp; omega
/-- A name: at most k keys with points between. -/
def dotB (k : Nat) (s : Str) : Bool := decide ((splitC 46 s).length ≤ k) && (splitC 46 s).all keyB
theorem Dotted_loop (most : Nat) (hm : most ≤ 1000) : ∀ (k : Nat) (s : Str) (n : Int), 0 ≤ n → n + k = most → s.length ≤ 1000000000 → base_Dotted_l1 most s n = some (dotB k s)
  | 0, s, n, h0, hn, hs => by
    have hne := splitC_ne 46 s
    have hp : 0 < (splitC 46 s).length := List.length_pos_iff.2 hne
    unfold base_Dotted_l1
    rw [iter_eq]
    show (match base_Dotted_b1 most s n with | _ => _) = _
    rw [base_Dotted_b1, if_neg (by omega)]
    simp only [Option.map_some, Option.bind_some]
    unfold dotB
    rw [decide_eq_false (by omega)]; rfl
  | k + 1, s, n, h0, hn, hs => by
    have ih := Dotted_loop most hm k (cut1 46 s).2.1 (n + 1) (by omega) (by omega) (by have := (cut1_len 46 s).2; omega)
    unfold base_Dotted_l1 at ih ⊢
    rw [iter_eq]
    show (match base_Dotted_b1 most s n with | _ => _) = _
    rw [base_Dotted_b1, if_pos (by omega), cutO_eq hs]
    simp only [Option.bind_some, Key_eq]
    unfold dotB
    rw [split_cut 46 s]
    by_cases hk : keyB (cut1 46 s).1 = true
    · by_cases hc : (cut1 46 s).2.2 = true
      · simp only [hk, hc, Bool.not_true, Bool.false_eq_true, if_false, if_true]
        rw [w64_in (by omega) (by omega)]
        refine ih.trans ?_
        unfold dotB
        simp [hk]
      · have hs' := cut1_miss 46 s (by simpa using hc)
        rw [hs'.1] at hk
        simp [hk, hc, hs'.1]
    · by_cases hc : (cut1 46 s).2.2 = true
      · simp [hk, hc]
      · have hs' := cut1_miss 46 s (by simpa using hc)
        rw [hs'.1] at hk
        simp [hk, hc, hs'.1]
theorem isName_eq {s : Str} (h : s.length ≤ 1000000000) : twin_isName s = some (dotB 8 s) := by
  unfold twin_isName base_Dotted
  rw [show ((8 : Int)) = ((8 : Nat) : Int) from rfl, Dotted_loop 8 (by omega) 8 s 0 (by omega) (by omega) h]
  rfl
theorem QPropName_eq {s : Str} (h : s.length ≤ 1000000000) : Q_PropName s = some (dotB 8 s) := by
  have hl := splitC_length 46 s
  unfold Q_PropName
  rw [splitO_eq h]
  simp only [Option.bind_some]
  unfold dotB
  by_cases h8 : (splitC 46 s).length ≤ 8
  · rw [if_pos (by omega), show slices_ContainsFunc_string_string (splitC 46 s) (fun y0 => Q_PropName_1x y0) = some ((splitC 46 s).any fun k => !keyB k) from gContainsFunc_eq _ _ _ (fun x _ => by unfold Q_PropName_1x; rw [QKey_eq]; rfl) (by omega)]
    simp [Q_PropName_j1, h8, List.all_eq_not_any_not]
  · rw [if_neg (by omega), decide_eq_false h8, Bool.false_and]; rfl
/-- What is wrong with a value. -/
theorem Out_not_in (n lo hi : Int) : (!(Q_in n lo hi)) = base_Out n lo hi := by
  rw [Qin_eq, Out_eq, Bool.eq_iff_iff]; simp <;> omega
end Go.Beacon

/- Strings without marks; letters: the checks of the program and of the reference. No program in sight. -/
set_option linter.unusedVariables false
set_option linter.unusedSimpArgs false
namespace Go.Beacon
open Go Go.Eng

def badC (c : UInt8) : Bool := decide (c.toNat < 32) || decide (c.toNat = 127)
def unmB (s : Str) : Bool := !s.any badC && Lib.validD s
theorem enc_hi {r : Int} (h : 128 ≤ r) : ∀ x ∈ Lib.encodeRune r, 128 ≤ x.toNat := by
  intro x hx
  unfold Lib.encodeRune at hx
  rw [List.mem_map] at hx
  obtain ⟨z, hz, rfl⟩ := hx
  have hb : 128 ≤ z ∧ z ≤ 255 := by
    unfold Lib.encodeRuneZ at hz
    split at hz
    · omega
    · split at hz
      · simp at hz; omega
      · split at hz
        · simp at hz; omega
        · split at hz
          · simp at hz; omega
          · simp at hz; omega
  show 128 ≤ (UInt8.ofNat z.toNat).toNat
  rw [UInt8.toNat_ofNat']
  omega
theorem idx_any (p : Nat → Bool) (hp : ∀ x, p x = (decide (x < 32) || decide (x = 127))) (s : Str) : ∀ (f pos : Nat), s.length ≤ pos + f → Lib.validD (s.drop pos) = true → decide (0 ≤ Lib.idxFuncFrom p true ⟨s.toArray⟩ f pos) = (s.drop pos).any badC := by
  intro f
  induction f with
  | zero =>
    intro pos hl _
    rw [List.drop_of_length_le (by omega)]
    rfl
  | succ f ih =>
    intro pos hl hv
    have hsz : (⟨s.toArray⟩ : ByteArray).size = s.length := by simp [ByteArray.size]
    unfold Lib.idxFuncFrom
    rw [hsz]
    by_cases hpos : pos < s.length
    · rw [if_pos hpos]
      have hdec : Utf8.decode ⟨s.toArray⟩ pos = Lib.decodeL (s.drop pos) := by
        have := Lib.decodeL_drop ⟨s.toArray⟩ pos
        simpa using this.symm
      rw [hdec]
      obtain ⟨b, t, hL⟩ : ∃ b t, s.drop pos = b :: t := by
        cases h : s.drop pos with
        | nil => have := congrArg List.length h; simp at this; omega
        | cons b t => exact ⟨b, t, rfl⟩
      have hstep := Lib.validD_step (s.drop pos) (by rw [hL]; simp)
      rw [hv] at hstep
      by_cases hb : b.toNat < 128
      · have hd := Lib.decodeL_ascii b t hb
        rw [hL] at hstep ⊢
        rw [hd] at hstep ⊢
        simp only [List.drop_one, List.tail_cons] at hstep ⊢
        have hdrop : s.drop (pos + 1) = t := by rw [← List.drop_drop, hL]; rfl
        have hnb : ¬ (b.toNat = 65533 ∧ True) := by omega
        have hvt : Lib.validD t = true := by
          rw [if_neg (by omega)] at hstep; exact hstep.symm
        rw [List.any_cons]
        have hbad : p b.toNat = badC b := by rw [hp]; rfl
        rw [hbad]
        cases hc : badC b with
        | true => simp
        | false =>
          simp only [Bool.false_eq_true, if_false, Bool.false_or]
          have := ih (pos + 1) (by omega) (by rw [hdrop]; exact hvt)
          rw [hdrop] at this
          exact this
      · have hne : s.drop pos ≠ [] := by rw [hL]; simp
        have hnb : ¬ ((Lib.decodeL (s.drop pos)).1 = 65533 ∧ (Lib.decodeL (s.drop pos)).2 = 1) := by
          intro h; rw [if_pos h] at hstep; cases hstep
        rw [if_neg hnb] at hstep
        have henc := Lib.encode_decode (s.drop pos) hne hnb
        have hk1 := Lib.decodeL_width (s.drop pos)
        have hk2 := Lib.decodeL_le (s.drop pos) hne
        generalize hr : (Lib.decodeL (s.drop pos)).1 = r at *
        generalize hk : (Lib.decodeL (s.drop pos)).2 = k at *
        have hr128 : 128 ≤ (r : Int) := by
          rcases Int.lt_or_le (r : Int) 128 with h | h
          · exfalso
            unfold Lib.encodeRune at henc
            rw [Lib.encodeRuneZ_one (by omega) (by omega), hL] at henc
            obtain ⟨k', rfl⟩ : ∃ k', k = k' + 1 := ⟨k - 1, by omega⟩
            simp only [List.map_cons, List.map_nil, List.take_succ_cons, List.cons.injEq] at henc
            have := congrArg UInt8.toNat henc.1
            have e : ((r : Int).toNat.toUInt8).toNat = r := by
              show (UInt8.ofNat (r : Int).toNat).toNat = r
              rw [UInt8.toNat_ofNat']; omega
            rw [e] at this; omega
          · exact h
        have hpr : p r = false := by rw [hp]; simp; omega
        rw [hpr]
        simp only [Bool.false_eq_true, if_false]
        have hsplit : (s.drop pos).any badC = (((s.drop pos).take k).any badC || ((s.drop pos).drop k).any badC) := by
          rw [← List.any_append, List.take_append_drop]
        have htk : ((s.drop pos).take k).any badC = false := by
          rw [List.any_eq_false]
          intro x hx
          rw [← henc] at hx
          have := enc_hi hr128 x hx
          unfold badC; simp; omega
        rw [hsplit, htk, Bool.false_or, List.drop_drop]
        rw [List.drop_drop] at hstep
        exact ih (pos + k) (by omega) hstep.symm
    · rw [if_neg hpos, List.drop_of_length_le (by omega)]
      rfl
theorem Printed_eq (s : Str) (hl : s.length ≤ 1000000) : Q_Printed s = some (unmB s) := by
  unfold Q_Printed Q_Printed_j1 validO unmB
  rw [if_pos (by omega)]
  simp only [Option.bind_some]
  cases hv : Lib.validD s with
  | false => simp
  | true =>
    simp only [if_true, Bool.and_true]
    unfold containsF
    rw [if_pos (fun x _ => ⟨_, rfl⟩)]
    simp only [Option.bind_some, Option.getD_some]
    have h := idx_any (fun x => Q_Printed_1x (x : Int)) (fun x => by
      unfold Q_Printed_1x Q_Printed_1x_j1
      congr 1
      · rw [Bool.eq_iff_iff]; simp; omega
      · rw [Bool.eq_iff_iff]; simp; omega) s s.length 0 (by omega) (by simpa using hv)
    rw [List.drop_zero] at h
    rw [← h]
    unfold Lib.idxFunc
    rw [show (⟨s.toArray⟩ : ByteArray).size = s.length by simp [ByteArray.size]]
theorem Unmarked_eq (s : Str) (hl : s.length ≤ 1000000) : base_Unmarked s = some (unmB s) := by
  unfold base_Unmarked base_Unmarked_l1
  have h := iter_find s (fun x : Int => base_Unmarked_b1 s x) (fun c => if badC c = true then some false else none) (Lib.validD s) (by omega) (fun i c h0 h1 h2 => by
    show base_Unmarked_b1 s i = _
    unfold base_Unmarked_b1 base_Unmarked_j1 badC
    rw [if_pos h1, h2]
    simp only [Option.bind_some]
    rw [w64_in (by omega) (by omega)]
    by_cases q1 : c.toNat < 32
    · rw [if_pos (by omega)]; simp [q1]
    · rw [if_neg (by omega)]
      by_cases q2 : c.toNat = 127
      · simp [q2]
      · have : ¬ ((c.toNat : Int) = 127) := by omega
        simp [q1, q2, this]) (by
    show base_Unmarked_b1 s s.length = _
    unfold base_Unmarked_b1 base_Unmarked_k2 validO
    rw [if_neg (by omega), if_pos (by omega)]; rfl)
  rw [h]
  unfold unmB
  congr 1
  induction s with
  | nil => simp [findE]
  | cons c r ih => exact find_any c r _
where
  find_any (c : UInt8) (r : Str) (e : Bool) : findE (fun c => if badC c = true then some false else none) e (c :: r) = (!(c :: r).any badC && e) := by
    have key : ∀ (l : Str), findE (fun c => if badC c = true then some false else none) e l = (!l.any badC && e) := by
      intro l
      induction l with
      | nil => simp [findE]
      | cons x t ih =>
        simp only [findE, List.any_cons]
        cases hx : badC x with
        | true => simp
        | false => simp [ih]
    exact key _
/-! letters -/
end Go.Beacon

/- Properties: the checks of the program and of the reference. No program in sight. -/
set_option linter.unusedVariables false
set_option linter.unusedSimpArgs false
namespace Go.Beacon
open Go Go.Eng

theorem vf_j1 (v : ValueS) (c : Bool) (n : Int) (q : Str) (h : v.Words.length ≤ 1000000) : twin_valueFault_j1 v c n q = Q_ValueFault_j1 v c n q := by
  unfold twin_valueFault_j1 Q_ValueFault_j1
  rw [Out_not_in, Unmarked_eq _ h, Printed_eq _ h]
  by_cases e : v = ⟨v.Kind, c, n, q⟩
  · have e1 : ¬ (v ≠ (⟨v.Kind, c, n, q⟩ : ValueS)) := fun z => z e
    have e2 : ¬ ((⟨v.Kind, c, n, q⟩ : ValueS) ≠ v) := fun z => z e.symm
    rw [if_neg e1, if_neg e2]
  · have e1 : v ≠ (⟨v.Kind, c, n, q⟩ : ValueS) := e
    have e2 : (⟨v.Kind, c, n, q⟩ : ValueS) ≠ v := fun z => e z.symm
    rw [if_pos e1, if_pos e2]
theorem valueFault_eq (v : ValueS) (h : v.Words.length ≤ 1000000) : twin_valueFault v = Q_ValueFault v := by
  unfold twin_valueFault Q_ValueFault twin_valueFault_j3 twin_valueFault_j2 Q_ValueFault_j3 Q_ValueFault_j2
  rw [Qin_eq]
  by_cases h0 : v.Kind = 0
  · rw [if_pos h0, h0, vf_j1 _ _ _ _ h]; simp
  by_cases h1 : v.Kind = 1
  · rw [if_neg h0, if_pos h1, h1, vf_j1 _ _ _ _ h]; simp
  by_cases h2 : v.Kind = 2
  · rw [if_neg h0, if_neg h1, if_pos h2, h2, vf_j1 _ _ _ _ h]; simp
  by_cases h3 : v.Kind = 3
  · rw [if_neg h0, if_neg h1, if_neg h2, if_pos h3, h3, vf_j1 _ _ _ _ h]; simp
  · rw [if_neg h0, if_neg h1, if_neg h2, if_neg h3, if_pos]
    simp; omega
end Go.Beacon

/- Finding a property by binary search. No program in sight. -/
set_option linter.unusedVariables false
set_option linter.unusedSimpArgs false
namespace Go.Beacon
open Go Go.Eng

theorem half2 {i j : Int} (h0 : 0 ≤ i) (h1 : i < j) (h2 : j ≤ 1000000) : w64 (shrI .u64 (IntKind.u64.wrap (w64 (i + j))) (1 : Int)) = (i + j) / 2 := by
  have e1 : w64 (i + j) = i + j := w64_in (by omega) (by omega)
  have e2 : IntKind.u64.wrap (i + j) = i + j := u64_in (by omega) (by omega)
  rw [e1, e2]
  have e3 : shrI .u64 (i + j) 1 = (i + j) / 2 := by
    show (i + j).fdiv 2 = _
    rw [Int.fdiv_eq_ediv_of_nonneg _ (by omega)]
  rw [e3, w64_in] <;> omega
theorem pw_idx {α : Type} {R : α → α → Prop} {l : List α} (h : l.Pairwise R) {i j : Int} {x y : α} (h0 : 0 ≤ i) (h1 : i < j) (hx : idx l i = some x) (hy : idx l j = some y) : R x y := by
  obtain ⟨_, _, g1⟩ := idx_some hx
  obtain ⟨_, _, g2⟩ := idx_some hy
  rw [List.getElem?_eq_some_iff] at g1 g2
  obtain ⟨k1, e1⟩ := g1
  obtain ⟨k2, e2⟩ := g2
  rw [← e1, ← e2]
  exact List.pairwise_iff_getElem.1 h _ _ k1 k2 (by omega)
/-- Properties in order. -/
def SN (l : List PropS) : Prop := l.Pairwise (fun a c => Lib.compareBytes a.Name c.Name < 0)
theorem find_eq (l : List PropS) (hl : l.length ≤ 1000) (hu : SN l) (s : Str) : ∃ r, twin_find l s = some r ∧ ((∃ p, 0 ≤ r ∧ idx l r = some p ∧ p.Name = s) ∨ (r = -1 ∧ ∀ p ∈ l, p.Name ≠ s)) := by
  have key : ∃ r, slices_BinarySearchFunc_Prop_Prop_string l s (fun y0 y1 => some (twin_find_1x y0 y1)) = some r ∧ ((r.2 = true ∧ ∃ p, 0 ≤ r.1 ∧ idx l r.1 = some p ∧ p.Name = s) ∨ (r.2 = false ∧ ∀ p ∈ l, p.Name ≠ s)) := by
    unfold slices_BinarySearchFunc_Prop_Prop_string slices_BinarySearchFunc_Prop_Prop_string_l1
    refine iter_inv _ (fun s : Int × Int => (s.2 - s.1).toNat) (fun q : Int × Int => 0 ≤ q.1 ∧ q.1 ≤ q.2 ∧ q.2 ≤ l.length ∧ (∀ j x, 0 ≤ j → j < q.1 → idx l j = some x → Lib.compareBytes x.Name s < 0) ∧ (∀ j x, q.2 ≤ j → idx l j = some x → ¬ Lib.compareBytes x.Name s < 0)) _ ?_ _ ⟨by simp, by simp, by simp, fun j x h0 h1 => by simp only at h1; omega, fun j x h0 h1 => by simp only at h0; have := (idx_some h1); omega⟩
    rintro ⟨i, j⟩ ⟨h0, h1, h2, h3, h4⟩
    simp only at h0 h1 h2 h3 h4 ⊢
    unfold slices_BinarySearchFunc_Prop_Prop_string_b1
    by_cases hij : i < j
    · rw [if_pos hij, half2 h0 hij (by omega)]
      obtain ⟨y, hy, _, _⟩ := idx_lt l (i := (i + j) / 2) (by omega) (by omega)
      simp only [hy, Option.bind_some, twin_find_1x]
      unfold slices_BinarySearchFunc_Prop_Prop_string_j1
      left
      by_cases hc : Lib.compareBytes y.Name s < 0
      · rw [if_pos hc, w64_in (by omega) (by omega)]
        refine ⟨_, rfl, ⟨by simp only; omega, by simp only; omega, by simp only; omega, fun k x g0 g1 hx => ?_, h4⟩, by simp only; omega⟩
        simp only at g1
        by_cases hk : k = (i + j) / 2
        · subst hk; rw [hx] at hy; obtain rfl := Option.some.inj hy; exact hc
        · exact cmpB_tr (pw_idx hu g0 (show k < (i + j) / 2 by omega) hx hy) hc
      · rw [if_neg hc]
        refine ⟨_, rfl, ⟨by simp only; omega, by simp only; omega, by simp only; omega, h3, fun k x g0 hx => ?_⟩, by simp only; omega⟩
        simp only at g0
        by_cases hk : k = (i + j) / 2
        · subst hk; rw [hx] at hy; obtain rfl := Option.some.inj hy; exact hc
        · intro hlt
          exact hc (cmpB_tr (pw_idx hu (show 0 ≤ (i + j) / 2 by omega) (show (i + j) / 2 < k by omega) hy hx) hlt)
    · rw [if_neg hij]
      right
      have : j = i := by omega
      subst this
      have no : ∀ p ∈ l, p.Name = s → idx l j = some p := by
        intro p hp he
        obtain ⟨n, hn, hx⟩ := List.getElem_of_mem hp
        have hi : idx l (n : Int) = some p := by
          obtain ⟨z, hz, _, _⟩ := idx_lt l (i := (n : Int)) (by omega) (by omega)
          have := (idx_some hz).2.2
          simp [hn] at this
          rw [hz, ← this, hx]
        have hself : Lib.compareBytes p.Name s = 0 := by rw [he]; have := cmpB_neg s s; omega
        rcases Int.lt_trichotomy (n : Int) j with c | c | c
        · have := h3 n p (by omega) c hi; omega
        · rw [← c]; exact hi
        · obtain ⟨z, hz, _, _⟩ := idx_lt l h0 (by omega)
          have a1 := h4 j z (by omega) hz
          have a2 := pw_idx hu h0 c hz hi
          rw [he] at a2
          exact absurd a2 a1
      unfold slices_BinarySearchFunc_Prop_Prop_string_k3 slices_BinarySearchFunc_Prop_Prop_string_j2
      split
      · rename_i hlt
        obtain ⟨y, hy, _, _⟩ := idx_lt l h0 hlt
        simp only [hy, Option.bind_some, twin_find_1x]
        by_cases hc : Lib.compareBytes y.Name s = 0
        · exact ⟨_, rfl, .inl ⟨by simp [hc], y, h0, hy, cmpB_zero hc⟩⟩
        · refine ⟨_, rfl, .inr ⟨by simp [hc], fun p hp he => ?_⟩⟩
          have := no p hp he
          rw [hy] at this; obtain rfl := Option.some.inj this
          exact hc (by rw [he]; have := cmpB_neg s s; omega)
      · rename_i hlt
        refine ⟨_, rfl, .inr ⟨rfl, fun p hp he => ?_⟩⟩
        have := (idx_some (no p hp he)); omega
  obtain ⟨r, h1, h2⟩ := key
  unfold twin_find
  rw [h1]
  simp only [Option.bind_some]
  rcases h2 with ⟨e, p, g1, g2, g3⟩ | ⟨e, g⟩
  · rw [e, if_neg (by simp)]; exact ⟨_, rfl, .inl ⟨p, g1, g2, g3⟩⟩
  · rw [e, if_pos (by simp)]; exact ⟨_, rfl, .inr ⟨rfl, g⟩⟩
end Go.Beacon

/- Names above a name: both ways to tell. No program in sight. -/
set_option linter.unusedVariables false
set_option linter.unusedSimpArgs false
namespace Go.Beacon
open Go Go.Eng

/-- t stands above name. -/
def abvB (t name : Str) : Bool := (t ++ [46]).isPrefixOf name
theorem abv_iff (t name : Str) : abvB t name = true ↔ ∃ i : Nat, name[i]? = some (46 : UInt8) ∧ name.take i = t := by
  unfold abvB
  rw [List.isPrefixOf_iff_prefix]
  constructor
  · rintro ⟨r, rfl⟩
    exact ⟨t.length, by simp, by simp⟩
  · rintro ⟨i, h1, rfl⟩
    obtain ⟨hi, h2⟩ := List.getElem?_eq_some_iff.1 h1
    refine ⟨name.drop (i + 1), ?_⟩
    rw [List.append_assoc, ← h2, List.singleton_append, ← List.drop_eq_getElem_cons hi, List.take_append_drop]
theorem above_eq (name : Str) (hl : name.length ≤ 1000000) (f : Str → Option Bool) (g : Str → Bool) (hf : ∀ s, f s = some (g s)) :
    ∃ r, twin_above name f = some r ∧ (r = true ↔ ∃ i : Nat, name[i]? = some (46 : UInt8) ∧ g (name.take i) = true) := by
  unfold twin_above twin_above_l1
  refine iter_inv _ (fun n : Int => (name.length - n).toNat) (fun n : Int => 0 ≤ n ∧ n ≤ name.length ∧ ∀ i : Nat, (i : Int) < n → name[i]? = some (46 : UInt8) → g (name.take i) = true → False) _ ?_ _ ⟨by omega, by omega, fun i h => by omega⟩
  rintro n ⟨h0, h1, h2⟩
  unfold twin_above_b1
  by_cases hn : n < name.length
  · obtain ⟨c, hc, _, _⟩ := idx_lt name h0 hn
    have hc' := (idx_some hc).2.2
    rw [if_pos hn, hc]; simp only [Option.bind_some]
    have step : ∀ (hno : name[n.toNat]? = some (46 : UInt8) → g (name.take n.toNat) = true → False), 0 ≤ n + 1 ∧ n + 1 ≤ name.length ∧ ∀ i : Nat, (i : Int) < n + 1 → name[i]? = some (46 : UInt8) → g (name.take i) = true → False := fun hno => ⟨by omega, by omega, fun i hi a b => by
      by_cases e : (i : Int) = n
      · have : n.toNat = i := by omega
        rw [this] at hno; exact hno a b
      · exact h2 i (by omega) a b⟩
    by_cases h46 : (c.toNat : Int) = 46
    · have hc46 : c = 46 := UInt8.toNat_inj.1 (by show c.toNat = 46; omega)
      rw [if_pos h46, slc_in (by omega) (by omega) (by omega)]
      simp only [Option.bind_some, hf]
      have ht : (name.drop (0 : Int).toNat).take (n.toNat - (0 : Int).toNat) = name.take n.toNat := by simp
      rw [ht]
      unfold twin_above_j1
      by_cases hg : g (name.take n.toNat) = true
      · right
        rw [if_pos hg]
        exact ⟨true, rfl, by simp only [true_iff]; exact ⟨n.toNat, by rw [hc', hc46], hg⟩⟩
      · left
        rw [if_neg hg, w64_in (by omega) (by omega)]
        exact ⟨_, rfl, step (fun _ b => hg b), by omega⟩
    · left
      rw [if_neg h46]
      unfold twin_above_j1
      rw [if_neg (by simp), w64_in (by omega) (by omega)]
      refine ⟨_, rfl, step (fun a _ => ?_), by omega⟩
      rw [hc'] at a
      obtain rfl := Option.some.inj a
      exact h46 rfl
  · right
    rw [if_neg hn]
    refine ⟨false, rfl, ?_⟩
    constructor
    · intro h; cases h
    · rintro ⟨i, a, b⟩
      have := (List.getElem?_eq_some_iff.1 a).1
      exact (h2 i (by omega) a b).elim
theorem Qabove_eq (a b : Str) (h : a.length ≤ 1000000) : Q_above a b = some (abvB a b) := by
  unfold Q_above
  rw [show catO a [46] = some (a ++ [46]) by unfold catO; rw [if_pos (by simp; omega)]]
  simp only [Option.bind_some]
  unfold strings_HasPrefix internal_stringslite_HasPrefix
  have e : (decide ((b.drop 0).take (a ++ [46]).length = a ++ [46])) = abvB a b := by
    unfold abvB
    rw [Bool.eq_iff_iff, decide_eq_true_eq, List.isPrefixOf_iff_prefix, List.drop_zero]
    constructor
    · intro h; rw [← h]; exact List.take_prefix _ _
    · intro h; exact (List.prefix_iff_eq_take.1 h).symm
  by_cases hlen : ((a ++ [46]).length : Int) ≤ b.length
  · rw [if_pos hlen, slc_in (by omega) (by omega) hlen]
    simp only [Option.bind_some, internal_stringslite_HasPrefix_j1]
    rw [← e]; simp
  · rw [if_neg hlen]
    simp only [Option.bind_some, internal_stringslite_HasPrefix_j1]
    congr 1
    rw [eq_comm, Bool.eq_false_iff]
    intro h
    unfold abvB at h
    have := (List.isPrefixOf_iff_prefix.1 h).length_le
    omega
end Go.Beacon

/- Checking properties: the program and the reference tell the same. No program in sight. -/
set_option linter.unusedVariables false
set_option linter.unusedSimpArgs false
namespace Go.Beacon
open Go Go.Eng

/-- Two loops side by side. -/
theorem iter_two {S A : Type} (f f' : S → Option (S ⊕ A)) (m : S → Nat) (Inv : S → Prop) (R : A → Prop)
    (h : ∀ s, Inv s → (∃ s', f s = some (.inl s') ∧ f' s = some (.inl s') ∧ Inv s' ∧ m s' < m s) ∨ (∃ a, f s = some (.inr a) ∧ f' s = some (.inr a) ∧ R a)) :
    ∀ (n : Nat) s, m s < n → Inv s → ∃ a, iter f s = some a ∧ iter f' s = some a ∧ R a
  | 0, s, hm, hi => by omega
  | n + 1, s, hm, hi => by
    rw [iter_eq f, iter_eq f']
    rcases h s hi with ⟨s', h1, h2, h3, h4⟩ | ⟨a, h1, h2, h3⟩
    · rw [h1, h2]
      exact iter_two f f' m Inv R h n s' (by omega) h3
    · rw [h1, h2]
      exact ⟨a, rfl, rfl, h3⟩
/-- Properties that may be checked. -/
def PB (l : List PropS) : Prop := l.length ≤ 1000 ∧ ∀ p ∈ l, p.Name.length ≤ 100000 ∧ p.Value.Words.length ≤ 100000
theorem has_eq (l : List PropS) (hl : l.length ≤ 1000) (hu : SN l) (s : Str) : twin_CheckProps_1x s l = some (l.any fun q => decide (q.Name = s)) := by
  obtain ⟨r, h1, h2⟩ := find_eq l hl hu s
  unfold twin_CheckProps_1x
  rw [h1]
  simp only [Option.bind_some, Option.some.injEq]
  rw [Bool.eq_iff_iff, decide_eq_true_eq, List.any_eq_true]
  rcases h2 with ⟨p, g1, g2, g3⟩ | ⟨rfl, g⟩
  · exact ⟨fun _ => ⟨p, idx_mem g2, by simp [g3]⟩, fun _ => g1⟩
  · constructor
    · intro h; omega
    · rintro ⟨p, hp, he⟩; exact absurd (by simpa using he) (g p hp)
theorem conf_eq (l : List PropS) (hb : PB l) (hu : SN l) (v : PropS) (hv : v ∈ l) : ∃ r, twin_above v.Name (fun y0 => twin_CheckProps_1x y0 l) = some r ∧ slices_ContainsFunc_Prop_Prop l (fun y0 => Q_PropsFault_1x y0 v) = some r := by
  obtain ⟨r, h1, h2⟩ := above_eq v.Name (by have := (hb.2 v hv).1; omega) (fun y0 => twin_CheckProps_1x y0 l) (fun s => l.any fun q => decide (q.Name = s)) (fun s => has_eq l hb.1 hu s)
  refine ⟨r, h1, ?_⟩
  rw [show slices_ContainsFunc_Prop_Prop l (fun y0 => Q_PropsFault_1x y0 v) = some (l.any fun q => abvB q.Name v.Name) from gContainsFunc_eq l _ _ (fun q hq => by unfold Q_PropsFault_1x; rw [Qabove_eq _ _ (by have := (hb.2 q hq).1; omega)]; rfl) (by have := hb.1; omega)]
  congr 1
  rw [Bool.eq_iff_iff, h2, List.any_eq_true]
  constructor
  · rintro ⟨q, hq, ha⟩
    obtain ⟨i, g1, g2⟩ := (abv_iff _ _).1 ha
    exact ⟨i, g1, List.any_eq_true.2 ⟨q, hq, by simp [g2]⟩⟩
  · rintro ⟨i, g1, g2⟩
    obtain ⟨q, hq, he⟩ := List.any_eq_true.1 g2
    exact ⟨q, hq, (abv_iff _ _).2 ⟨i, g1, (by simpa using he : q.Name = _).symm⟩⟩
theorem loop2_eq (l : List PropS) (hb : PB l) (hu : SN l) : ∃ r, twin_CheckProps_l2 l 0 = some r ∧ Q_PropsFault_l2 l 0 = some r ∧ True := by
  have hl := hb.1
  unfold twin_CheckProps_l2 Q_PropsFault_l2
  refine iter_two _ _ (fun n : Int => (l.length - n).toNat) (fun n : Int => 0 ≤ n ∧ n ≤ l.length) (fun _ => True) ?_ (l.length + 1) 0 (by omega) ⟨by omega, by omega⟩
  rintro n ⟨h0, h1⟩
  unfold twin_CheckProps_b2 Q_PropsFault_b2
  by_cases hn : n < l.length
  · obtain ⟨v, hv, hm, _⟩ := idx_lt l h0 hn
    obtain ⟨r, g1, g2⟩ := conf_eq l hb hu v hm
    rw [if_pos hn, if_pos hn, hv]
    simp only [Option.bind_some, g1, g2]
    cases r with
    | true => right; exact ⟨_, rfl, rfl, trivial⟩
    | false =>
      left
      rw [w64_in (by omega) (by omega)]
      exact ⟨_, rfl, rfl, ⟨by omega, by omega⟩, by omega⟩
  · rw [if_neg hn, if_neg hn]
    right; exact ⟨_, rfl, rfl, trivial⟩
end Go.Beacon

/- Checking properties, whole. No program in sight. -/
set_option linter.unusedVariables false
set_option linter.unusedSimpArgs false
namespace Go.Beacon
open Go Go.Eng

theorem vf_tot (v : ValueS) (h : v.Words.length ≤ 1000000) : ∃ r, Q_ValueFault v = some r := by
  have k : ∀ c n q, ∃ r, Q_ValueFault_j1 v c n q = some r := by
    intro c n q
    unfold Q_ValueFault_j1
    rw [Printed_eq _ h]
    repeat' split
    all_goals first
      | exact ⟨_, rfl⟩
      | (simp only [Option.bind_some]; split <;> exact ⟨_, rfl⟩)
  unfold Q_ValueFault Q_ValueFault_j3 Q_ValueFault_j2
  repeat' split
  all_goals first
    | exact ⟨_, rfl⟩
    | exact k _ _ _
theorem sn_step {l : List PropS} {n : Int} {v : PropS} (h0 : 0 ≤ n) (hv : idx l n = some v) (hs : SN (l.take n.toNat)) (hp : ∀ x, 0 < n → idx l (n - 1) = some x → Lib.compareBytes x.Name v.Name < 0) : SN (l.take (n + 1).toNat) := by
  have g1 := (idx_some hv).2.2
  have e : (n + 1).toNat = n.toNat + 1 := by omega
  obtain ⟨hn, hg⟩ := List.getElem?_eq_some_iff.1 g1
  rw [e, List.take_succ_eq_append_getElem hn]
  unfold SN at hs ⊢
  rw [List.pairwise_append]
  refine ⟨hs, List.pairwise_singleton _ _, fun a ha b hb => ?_⟩
  rw [List.mem_singleton] at hb
  subst hb
  rw [hg]
  obtain ⟨i, hi, rfl⟩ := List.getElem_of_mem ha
  have hi' : i < n.toNat := by simp at hi; omega
  obtain ⟨z, hz, _, _⟩ := idx_lt l (i := n - 1) (by omega) (by omega)
  have g2 := (idx_some hz).2.2
  obtain ⟨hn2, hg2⟩ := List.getElem?_eq_some_iff.1 g2
  have hlast := hp z (by omega) hz
  by_cases c : i = (n - 1).toNat
  · subst c
    rw [List.getElem_take, hg2]; exact hlast
  · have := List.pairwise_iff_getElem.1 hs i (n - 1).toNat hi (by simp; omega) (by omega)
    rw [List.getElem_take (j := n.toNat) (i := (n - 1).toNat), hg2] at this
    exact cmpB_tr this hlast
/-- All have values. -/
def KN (l : List PropS) : Prop := ∀ p ∈ l, p.Value.Kind ≠ 0
theorem kn_step {l : List PropS} {n : Int} {v : PropS} (h0 : 0 ≤ n) (hv : idx l n = some v) (hs : KN (l.take n.toNat)) (hk : v.Value.Kind ≠ 0) : KN (l.take (n + 1).toNat) := by
  have g1 := (idx_some hv).2.2
  have e : (n + 1).toNat = n.toNat + 1 := by omega
  obtain ⟨hn, hg⟩ := List.getElem?_eq_some_iff.1 g1
  rw [e, List.take_succ_eq_append_getElem hn, hg]
  intro p hp
  rcases List.mem_append.1 hp with c | c
  · exact hs p c
  · rw [List.mem_singleton] at c; subst c; exact hk
theorem CheckProps_eq (l : List PropS) (hb : PB l) : ∃ r, twin_CheckProps l = some r ∧ Q_PropsFault l = some r ∧ (r = 0 → SN l ∧ l.length ≤ 500 ∧ KN l) := by
  have hl := hb.1
  unfold twin_CheckProps Q_PropsFault
  by_cases h5 : (500 : Int) < (l.length : Int)
  · rw [if_pos h5, if_pos h5]; exact ⟨2, rfl, rfl, fun h => by omega⟩
  rw [if_neg h5, if_neg h5]
  have key : ∃ r, twin_CheckProps_l1 l 0 = some r ∧ Q_PropsFault_l1 l 0 = some r ∧ (r = 0 → SN l ∧ KN l) := by
    unfold twin_CheckProps_l1 Q_PropsFault_l1
    refine iter_two _ _ (fun n : Int => (l.length - n).toNat) (fun n : Int => 0 ≤ n ∧ n ≤ l.length ∧ SN (l.take n.toNat) ∧ KN (l.take n.toNat)) (fun r => r = 0 → SN l ∧ KN l) ?_ (l.length + 1) 0 (by omega) ⟨by omega, by omega, by simp [SN], by simp [KN]⟩
    rintro n ⟨h0, h1, h2, h3⟩
    unfold twin_CheckProps_b1 Q_PropsFault_b1
    by_cases hn : n < l.length
    · obtain ⟨v, hv, hm, _⟩ := idx_lt l h0 hn
      have hbv := hb.2 v hm
      rw [if_pos hn, if_pos hn, hv]
      simp only [Option.bind_some]
      rw [isName_eq (by omega), QPropName_eq (by omega)]
      simp only [Option.bind_some]
      by_cases hd : (!dotB 8 v.Name) = true
      · right; rw [if_pos hd, if_pos hd]; exact ⟨5, rfl, rfl, fun h => by omega⟩
      rw [if_neg hd, if_neg hd, valueFault_eq _ (by omega)]
      obtain ⟨e, he⟩ := vf_tot v.Value (by omega)
      rw [he]
      simp only [Option.bind_some]
      by_cases h6 : e ≠ 0
      · right; rw [if_pos h6, if_pos h6]; exact ⟨e, rfl, rfl, fun h => absurd h h6⟩
      rw [if_neg h6, if_neg h6]
      by_cases hk : v.Value.Kind = 0
      · right; rw [if_pos hk, if_pos hk]; exact ⟨4, rfl, rfl, fun h => by omega⟩
      rw [if_neg hk, if_neg hk]
      by_cases hp : 0 < n
      · rw [if_pos hp, if_pos hp, w64_in (x := n - 1) (by omega) (by omega)]
        obtain ⟨z, hz, _, _⟩ := idx_lt l (i := n - 1) (by omega) (by omega)
        rw [hz]
        simp only [Option.bind_some]
        unfold twin_CheckProps_j1 Q_PropsFault_j1
        by_cases ho : (Op.bytesLess v.Name z.Name || v.Name == z.Name) = true
        · right; rw [if_pos ho]; exact ⟨7, rfl, rfl, fun h => by omega⟩
        · left; rw [if_neg ho, w64_in (by omega) (by omega)]
          refine ⟨_, rfl, rfl, ⟨by omega, by omega, sn_step h0 hv h2 fun x _ hx => ?_, kn_step h0 hv h3 hk⟩, by omega⟩
          rw [hz] at hx
          obtain rfl := Option.some.inj hx
          rw [less_iff] at ho
          have ho' : ¬ Lib.compareBytes v.Name z.Name < 0 ∧ ¬ v.Name = z.Name := by simpa using ho
          have hneg := cmpB_neg v.Name z.Name
          have hz0 : Lib.compareBytes v.Name z.Name ≠ 0 := fun h => ho'.2 (cmpB_zero h)
          omega
      · rw [if_neg hp, if_neg hp]
        left
        unfold twin_CheckProps_j1 Q_PropsFault_j1
        rw [if_neg (by simp), w64_in (by omega) (by omega)]
        exact ⟨_, rfl, rfl, ⟨by omega, by omega, sn_step h0 hv h2 fun x h _ => absurd h hp, kn_step h0 hv h3 hk⟩, by omega⟩
    · rw [if_neg hn, if_neg hn]
      have hlen : n.toNat = l.length := by omega
      rw [hlen, List.take_length] at h2 h3
      obtain ⟨r, g1, g2, _⟩ := loop2_eq l hb h2
      right
      rw [g1, g2]
      exact ⟨r, rfl, rfl, fun _ => ⟨h2, h3⟩⟩
  obtain ⟨r, g1, g2, g3⟩ := key
  exact ⟨r, g1, g2, fun h => ⟨(g3 h).1, by omega, (g3 h).2⟩⟩
end Go.Beacon

/- Values and properties under a name. No program in sight. -/
set_option linter.unusedVariables false
set_option linter.unusedSimpArgs false
namespace Go.Beacon
open Go Go.Eng

theorem sn_unique {l : List PropS} (h : SN l) {p q : PropS} (hp : p ∈ l) (hq : q ∈ l) (he : p.Name = q.Name) : p = q := by
  obtain ⟨i, hi, rfl⟩ := List.getElem_of_mem hp
  obtain ⟨j, hj, rfl⟩ := List.getElem_of_mem hq
  have irr : ∀ a : Str, ¬ Lib.compareBytes a a < 0 := fun a => by have := cmpB_neg a a; omega
  rcases Nat.lt_trichotomy i j with c | c | c
  · have := List.pairwise_iff_getElem.1 h i j hi hj c
    rw [he] at this; exact absurd this (irr _)
  · subst c; rfl
  · have := List.pairwise_iff_getElem.1 h j i hj hi c
    rw [he] at this; exact absurd this (irr _)
theorem valueOf_eq (l : List PropS) (hl : l.length ≤ 1000) (hu : SN l) (s : Str) : ∃ r, twin_valueOf l s = some r ∧ Q_ValueOf l s = some r := by
  have hQ : Q_ValueOf l s = some (findE (fun p : PropS => if p.Name = s then some p.Value else none) (⟨0, false, 0, []⟩ : ValueS) l) := by
    unfold Q_ValueOf Q_ValueOf_l1
    rw [iter_find l (fun x : Int => Q_ValueOf_b1 l s x) (fun p : PropS => if p.Name = s then some p.Value else none) (⟨0, false, 0, []⟩ : ValueS) (by omega)]
    · intro i x h0 h1 hx
      rw [Q_ValueOf_b1, if_pos h1, hx]
      simp only [Option.bind_some]
      by_cases c : x.Name = s
      · rw [if_pos c, if_pos c]; rfl
      · rw [if_neg c, if_neg c, w64_in (by omega) (by omega)]
    · rw [Q_ValueOf_b1, if_neg (by omega)]; rfl
  refine ⟨_, ?_, hQ⟩
  obtain ⟨r, h1, h2⟩ := find_eq l hl hu s
  unfold twin_valueOf
  rw [h1]
  simp only [Option.bind_some]
  rcases h2 with ⟨p, g0, g1, g2⟩ | ⟨rfl, g⟩
  · rw [if_pos g0, g1]
    simp only [Option.bind_some, Option.some.injEq]
    have hp := idx_mem g1
    have : ∀ X : List PropS, p ∈ X → (∀ q ∈ X, q.Name = s → q = p) → p.Value = findE (fun p : PropS => if p.Name = s then some p.Value else none) (⟨0, false, 0, []⟩ : ValueS) X := by
      intro X
      induction X with
      | nil => intro h; cases h
      | cons y Y ih =>
        intro hm hun
        unfold findE
        by_cases c : y.Name = s
        · rw [if_pos c]; rw [hun y (by simp) c]
        · rw [if_neg c]
          refine ih ?_ (fun q hq => hun q (by simp [hq]))
          rcases List.mem_cons.1 hm with e | e
          · subst e; exact absurd g2 c
          · exact e
    exact this l hp (fun q hq he => sn_unique hu hq hp (by rw [he, g2]))
  · rw [if_neg (by omega)]
    congr 1
    have : ∀ X : List PropS, (∀ q ∈ X, q.Name ≠ s) → (⟨0, false, 0, []⟩ : ValueS) = findE (fun p : PropS => if p.Name = s then some p.Value else none) (⟨0, false, 0, []⟩ : ValueS) X := by
      intro X
      induction X with
      | nil => intro _; rfl
      | cons y Y ih =>
        intro hun
        unfold findE
        rw [if_neg (hun y (by simp))]
        exact ih (fun q hq => hun q (by simp [hq]))
    exact this l g
theorem Below_eq (a b : Str) : base_Below a b = some (abvB b a) := by
  have e : (decide (a[b.length]? = some (46 : UInt8)) && decide (a.take b.length = b)) = abvB b a := by
    rw [Bool.eq_iff_iff, abv_iff]
    constructor
    · intro h
      have h' : a[b.length]? = some (46 : UInt8) ∧ a.take b.length = b := by simpa using h
      exact ⟨b.length, h'⟩
    · rintro ⟨i, h1, rfl⟩
      have hi := (List.getElem?_eq_some_iff.1 h1).1
      have : (a.take i).length = i := by simp; omega
      rw [this]; simp [h1]
  unfold base_Below
  rw [← e]
  by_cases h : (b.length : Int) < a.length
  · obtain ⟨c, hc, _, _⟩ := idx_lt a (i := (b.length : Int)) (by omega) h
    have hc' := (idx_some hc).2.2
    have hc2 : a[b.length]? = some c := by simpa using hc'
    rw [if_pos h, hc]
    simp only [Option.bind_some]
    by_cases h46 : (c.toNat : Int) = 46
    · have hc46 : c = 46 := UInt8.toNat_inj.1 (by show c.toNat = 46; omega)
      rw [if_pos h46, slc_in (by omega) (by omega) (by omega)]
      simp only [Option.bind_some, base_Below_j1]
      rw [hc2, hc46]; simp
    · rw [if_neg h46]
      have : ¬ c = 46 := fun e => h46 (by rw [e]; rfl)
      rw [hc2]; simp [base_Below_j1, this]
  · rw [if_neg h, List.getElem?_eq_none (by omega)]; simp [base_Below_j1]
end Go.Beacon

/- Streams, in the form that is stepped by one text: what can still be drawn is counted down. No program in sight. -/
set_option linter.unusedVariables false
set_option linter.unusedSimpArgs false
namespace Go.Beacon
open Go Go.Eng

theorem Next_k {s : Stm} {n K : Int} (hs : SOk s K) (hK : 1 ≤ K) (h1 : 1 ≤ n) (h2 : n ≤ 4611686018427387904) : Gen (Stream_Next s n) (K - 1) (fun v => 0 ≤ v ∧ v < n) :=
  Next_ok (hs.less (by omega)) h1 h2 (by omega)
theorem Flip_k {s : Stm} {n K : Int} (hs : SOk s K) (hK : 1 ≤ K) (h1 : 1 ≤ n) (h2 : n ≤ 4611686018427387904) : Gen (Stream_Flip s n) (K - 1) (fun _ => True) :=
  Flip_ok (hs.less (by omega)) h1 h2 (by omega)
theorem Pick_k {s : Stm} {l : List Int} {K : Int} (hs : SOk s K) (hK : 1 ≤ K) (h1 : l ≠ []) (h2 : l.length ≤ 1000) : Gen (Stream_Pick s l) (K - 1) (fun v => v ∈ l) :=
  Pick_ok (hs.less (by omega)) h1 h2 (by omega)
theorem Range_k {s : Stm} {a b K : Int} (hs : SOk s K) (hK : 1 ≤ K) (hab : a ≤ b) (ha : -1152921504606846976 ≤ a) (hb : b ≤ 1152921504606846976) : Gen (Stream_Range s a b) (K - 1) (fun v => a ≤ v ∧ v ≤ b) :=
  Range_ok (hs.less (by omega)) hab ha hb (by omega)
theorem Some_k {s : Stm} {l : List Str} {K : Int} (hs : SOk s K) (hK : 1 ≤ K) (h1 : l ≠ []) (h2 : l.length ≤ 1000) : Gen (Stream_Some s l) (K - 1) (fun v => v ∈ l) :=
  Some_ok (hs.less (by omega)) h1 h2 (by omega)
theorem Odd_k {s : Stm} {a b K : Int} (hs : SOk s K) (hK : 2 ≤ K) (hab : a ≤ b) (ha : -1099511627776 ≤ a) (hb : b ≤ 1099511627776) : Gen (Stream_Odd s a b) (K - 2) (fun v => -1099511627777 ≤ v ∧ v ≤ 1099511627777) :=
  Odd_ok (hs.less (by omega)) hab ha hb (by omega)
end Go.Beacon

/- Plain functions that end, and what their results are like: one lemma for each step. No program in sight. -/
set_option linter.unusedVariables false
set_option linter.unusedSimpArgs false
namespace Go.Beacon
open Go Go.Eng

/-- It ends, and its result is so. -/
def Ok {α : Type} (m : Option α) (Q : α → Prop) : Prop := ∃ r, m = some r ∧ Q r
theorem Ok.ret {α : Type} {v : α} {Q : α → Prop} (h : Q v) : Ok (some v) Q := ⟨v, rfl, h⟩
theorem Ok.mono {α : Type} {m : Option α} {P Q : α → Prop} (h : Ok m P) (hp : ∀ v, P v → Q v) : Ok m Q := by
  obtain ⟨r, h1, h2⟩ := h; exact ⟨r, h1, hp r h2⟩
theorem Ok.bind {α β : Type} {m : Option α} {f : α → Option β} {P : α → Prop} {Q : β → Prop} (h : Ok m P) (hf : ∀ v, P v → Ok (f v) Q) : Ok (m.bind f) Q := by
  obtain ⟨r, rfl, h2⟩ := h; exact hf r h2
theorem Ok.is {α β : Type} {m : Option α} {v : α} {f : α → Option β} {Q : β → Prop} (h : m = some v) (hf : Ok (f v) Q) : Ok (m.bind f) Q := by rw [h]; exact hf
theorem Ok.inr {α β : Type} {m : Option β} {Q : α ⊕ β → Prop} (h : Ok m (fun r => Q (.inr r))) : Ok (Option.map .inr m) Q := by
  obtain ⟨r, rfl, h2⟩ := h; exact ⟨_, rfl, h2⟩
theorem Ok.gen {α β : Type} {m : Option (α × Stm)} {k : Int} {P : α → Prop} {f : α × Stm → Option β} {Q : β → Prop} (h : Gen m k P) (hf : ∀ v s', P v → SOk s' k → Ok (f (v, s')) Q) : Ok (m.bind f) Q := by
  obtain ⟨v, s', rfl, h1, h2⟩ := h; exact hf v s' h1 h2
theorem Gen.of {α : Type} {m : Option (α × Stm)} {k : Int} {P : α → Prop} (h : Ok m (fun r => P r.1 ∧ SOk r.2 k)) : Gen m k P := by
  obtain ⟨⟨v, s⟩, h1, h2, h3⟩ := h; exact ⟨v, s, h1, h2, h3⟩
theorem Ok.of {α : Type} {m : Option (α × Stm)} {k : Int} {P : α → Prop} (h : Gen m k P) : Ok m (fun r => P r.1 ∧ SOk r.2 k) := by
  obtain ⟨v, s, h1, h2, h3⟩ := h; exact ⟨(v, s), h1, h2, h3⟩
theorem Ok.idx {α β : Type} {xs : List α} {i : Int} {f : α → Option β} {Q : β → Prop} (h0 : 0 ≤ i) (h1 : i < xs.length) (hf : ∀ x, idx xs i = some x → x ∈ xs → Ok (f x) Q) : Ok ((idx xs i).bind f) Q := by
  obtain ⟨x, hx, hm, _⟩ := idx_lt xs h0 h1
  rw [hx]; exact hf x hx hm
theorem Ok.app {α β : Type} {xs ys : List α} {f : List α → Option β} {Q : β → Prop} (h : xs.length + ys.length ≤ 1000000000) (hf : Ok (f (xs ++ ys)) Q) : Ok ((app xs ys).bind f) Q := by
  rw [app_le h]; exact hf
theorem Ok.slc {α β : Type} {xs : List α} {a b : Int} {f : List α → Option β} {Q : β → Prop} (h0 : 0 ≤ a) (h1 : a ≤ b) (h2 : b ≤ xs.length) (hf : ∀ ys : List α, ys = (xs.drop a.toNat).take (b.toNat - a.toNat) → (ys.length : Int) = b - a → Ok (f ys) Q) : Ok ((slc xs a b).bind f) Q := by
  rw [slc_in h0 h1 h2]; exact hf _ rfl (by simp; omega)
/-- What a round of a loop may tell: it keeps something and makes a number smaller, or it is the last. -/
abbrev Stp {S A : Type} (m : S → Nat) (Inv : S → Prop) (R : A → Prop) (s : S) : S ⊕ A → Prop
  | .inl s' => Inv s' ∧ m s' < m s
  | .inr a => R a
theorem Ok.iter {S A : Type} {f : S → Option (S ⊕ A)} {R : A → Prop} (m : S → Nat) (Inv : S → Prop)
    (h : ∀ s, Inv s → Ok (f s) (Stp m Inv R s)) (s : S) (hs : Inv s) : Ok (iter f s) R := by
  refine iter_inv f m Inv R (fun s hi => ?_) s hs
  obtain ⟨r, h1, h2⟩ := h s hi
  cases r with
  | inl s' => exact .inl ⟨s', h1, h2.1, h2.2⟩
  | inr a => exact .inr ⟨a, h1, h2⟩
/-- A round of a loop over the places of a list. -/
abbrev Rng {A : Type} (N : Nat) (R : A → Prop) (i : Int) : Int ⊕ A → Prop
  | .inl j => j = i + 1 ∧ i < N
  | .inr a => R a
theorem Ok.range {A : Type} {f : Int → Option (Int ⊕ A)} {R : A → Prop} (N : Nat) (h : ∀ i : Int, 0 ≤ i → i ≤ N → Ok (f i) (Rng N R i)) : Ok (Eng.iter f 0) R := by
  refine Ok.iter (fun i : Int => N + 1 - i.toNat) (fun i : Int => 0 ≤ i ∧ i ≤ N) (fun i hi => ?_) 0 ⟨by omega, by omega⟩
  refine (h i hi.1 hi.2).mono (fun r hr => ?_)
  cases r with
  | inl j => simp only [Rng, Stp] at hr ⊢; omega
  | inr a => exact hr
end Go.Beacon

/- Cells: checks, the order of stamps, what hides what. No program in sight. -/
set_option linter.unusedVariables false
set_option linter.unusedSimpArgs false
namespace Go.Beacon
open Go Go.Eng

theorem flatC_len {α β : Type} (g : α → List β) (hg : ∀ x, (g x).length ≤ 1) : ∀ xs : List α, (xs.flatMap g).length ≤ xs.length
  | [] => by simp
  | x :: xs => by
    have h1 := flatC_len g hg xs
    have h2 := hg x
    rw [List.flatMap_cons, List.length_append, List.length_cons]; omega
/-- A loop that appends something for each element. -/
theorem iter_flC {α β A : Type} (xs : List α) (g : α → List β) (hg : ∀ x, (g x).length ≤ 1) (f : List β × Int → Option ((List β × Int) ⊕ A)) (r : Option A) (X0 : List β)
    (h1 : ∀ (X : List β) (i : Int) x, 0 ≤ i → i < xs.length → idx xs i = some x → x ∈ xs → X.length ≤ X0.length + xs.length → f (X, i) = some (.inl (X ++ g x, i + 1)))
    (h2 : ∀ i : Int, i = xs.length → f (X0 ++ xs.flatMap g, i) = r.map .inr) : iter f (X0, 0) = r := by
  refine iter_to _ (fun x : List β × Int => (xs.length - x.2).toNat) (fun x : List β × Int => 0 ≤ x.2 ∧ x.2 ≤ xs.length ∧ x.1 = X0 ++ (xs.take x.2.toNat).flatMap g) _ ?_ _ ⟨by simp, by simp, by simp⟩
  rintro ⟨X, n⟩ ⟨g0, g1, g2⟩
  simp only at g0 g1 g2 ⊢
  by_cases hn : n < xs.length
  · left
    obtain ⟨v, hv, hm, _⟩ := idx_lt xs g0 hn
    obtain ⟨hn', hg'⟩ := List.getElem?_eq_some_iff.1 (idx_some hv).2.2
    have e : (n + 1).toNat = n.toNat + 1 := by omega
    have hX : X.length ≤ X0.length + xs.length := by
      rw [g2, List.length_append]
      have := flatC_len g hg (xs.take n.toNat)
      simp only [List.length_take] at this
      omega
    refine ⟨_, h1 X n v g0 hn hv hm hX, ⟨by simp only; omega, by simp only; omega, ?_⟩, by simp only; omega⟩
    simp only
    rw [e, List.take_succ_eq_append_getElem hn', g2, hg']; simp
  · right
    have hn' : n = xs.length := by omega
    rw [g2, List.take_of_length_le (by omega)]
    exact h2 n hn'
/-! checks -/
theorem stampF_eq (s : Stamp) : ∃ r, twin_stampFault s = some r ∧ Q_StampFault s = some r := by
  unfold twin_stampFault Q_StampFault
  rw [Moment_eq, QMoment_eq, Key_eq, QKey_eq, Out_not_in]
  simp only [Option.bind_some]
  repeat' split
  all_goals exact ⟨_, rfl, rfl⟩
/-- The name of a cell. -/
def cN (c : Cell) : Str := c.Prop_.Name
/-- Cells that may be checked. -/
def CL (l : List Cell) : Prop := l.length ≤ 1000 ∧ ∀ c ∈ l, (cN c).length ≤ 100000 ∧ c.Prop_.Value.Words.length ≤ 100000 ∧ (-1099511627777 ≤ c.Stamp.At ∧ c.Stamp.At ≤ 1099511627777) ∧ (-1099511627777 ≤ c.Stamp.No ∧ c.Stamp.No ≤ 1099511627777)
theorem cid_step {α : Type} (id : α → Str) {l : List α} {n : Int} {v : α} (h0 : 0 ≤ n) (hv : idx l n = some v) (hs : SId id (l.take n.toNat)) (hp : ∀ x, 0 < n → idx l (n - 1) = some x → Lib.compareBytes (id x) (id v) < 0) : SId id (l.take (n + 1).toNat) := by
  have g1 := (idx_some hv).2.2
  have e : (n + 1).toNat = n.toNat + 1 := by omega
  obtain ⟨hn, hg⟩ := List.getElem?_eq_some_iff.1 g1
  rw [e, List.take_succ_eq_append_getElem hn]
  unfold SId at hs ⊢
  rw [List.pairwise_append]
  refine ⟨hs, List.pairwise_singleton _ _, fun a ha b hb => ?_⟩
  rw [List.mem_singleton] at hb
  subst hb
  rw [hg]
  obtain ⟨i, hi, rfl⟩ := List.getElem_of_mem ha
  have hi' : i < n.toNat := by simp at hi; omega
  obtain ⟨z, hz, _, _⟩ := idx_lt l (i := n - 1) (by omega) (by omega)
  have g2 := (idx_some hz).2.2
  obtain ⟨hn2, hg2⟩ := List.getElem?_eq_some_iff.1 g2
  have hlast := hp z (by omega) hz
  by_cases c : i = (n - 1).toNat
  · subst c
    rw [List.getElem_take, hg2]; exact hlast
  · have := List.pairwise_iff_getElem.1 hs i (n - 1).toNat hi (by simp; omega) (by omega)
    rw [List.getElem_take (j := n.toNat) (i := (n - 1).toNat), hg2] at this
    exact cmpB_tr this hlast
theorem cerrs_two (c : List Cell) (n : Int) (v : Cell) (a b : Int) : Q_CellsFault_l2 c n v a b 0 = if orL [a, b] ≠ 0 then some (.inr (orL [a, b])) else Q_CellsFault_k2 c n v := by
  unfold Q_CellsFault_l2
  rw [iter_eq]
  show Option.bind (Q_CellsFault_b2 c n v a b 0) _ = _
  unfold Q_CellsFault_b2
  rw [if_pos (by simp), show idx [a, b] 0 = some a from rfl]
  simp only [Option.bind_some]
  by_cases ha : a = 0
  · subst ha
    rw [if_neg (by simp)]
    show iter _ (1 : Int) = _
    rw [iter_eq]
    show Option.bind (Q_CellsFault_b2 c n v 0 b 1) _ = _
    unfold Q_CellsFault_b2
    rw [if_pos (by simp), show idx [0, b] 1 = some b from rfl]
    simp only [Option.bind_some]
    by_cases hb : b = 0
    · subst hb
      rw [if_neg (by simp)]
      show iter _ (2 : Int) = _
      rw [iter_eq]
      show Option.bind (Q_CellsFault_b2 c n v 0 0 2) _ = _
      unfold Q_CellsFault_b2
      rw [if_neg (by simp), if_neg (by simp [orL])]
      cases Q_CellsFault_k2 c n v <;> rfl
    · rw [if_pos hb]
      have : orL [0, b] = b := by simp [orL, hb]
      rw [this, if_pos hb]; rfl
  · rw [if_pos ha]
    have : orL [a, b] = a := by simp [orL, ha]
    rw [this, if_pos ha]; rfl
theorem CheckCells_eq (c : List Cell) (hb : CL c) : ∃ r, twin_CheckCells c = some r ∧ Q_CellsFault c = some r ∧ (r = 0 → SId cN c ∧ c.length ≤ 500) := by
  have hl := hb.1
  unfold twin_CheckCells Q_CellsFault
  by_cases h5 : (500 : Int) < (c.length : Int)
  · rw [if_pos h5, if_pos h5]; exact ⟨2, rfl, rfl, fun h => by omega⟩
  rw [if_neg h5, if_neg h5]
  have key : ∃ r, twin_CheckCells_l1 c 0 = some r ∧ Q_CellsFault_l1 c 0 = some r ∧ (r = 0 → SId cN c) := by
    unfold twin_CheckCells_l1 Q_CellsFault_l1
    refine iter_two _ _ (fun n : Int => (c.length - n).toNat) (fun n : Int => 0 ≤ n ∧ n ≤ c.length ∧ SId cN (c.take n.toNat)) (fun r => r = 0 → SId cN c) ?_ (c.length + 1) 0 (by omega) ⟨by omega, by omega, by simp [SId]⟩
    rintro n ⟨h0, h1, h2⟩
    unfold twin_CheckCells_b1 Q_CellsFault_b1
    by_cases hn : n < c.length
    · obtain ⟨v, hv, hm, _⟩ := idx_lt c h0 hn
      obtain ⟨b1, b2, _⟩ := hb.2 v hm
      unfold cN at b1
      rw [if_pos hn, if_pos hn, hv]
      simp only [Option.bind_some]
      rw [isName_eq (by omega), QPropName_eq (by omega)]
      simp only [Option.bind_some]
      by_cases hd : (!dotB 8 v.Prop_.Name) = true
      · right; rw [if_pos hd, if_pos hd]; exact ⟨5, rfl, rfl, fun h => by omega⟩
      rw [if_neg hd, if_neg hd, valueFault_eq _ (by omega)]
      obtain ⟨e1, he1⟩ := vf_tot v.Prop_.Value (by omega)
      obtain ⟨e2, he2, he3⟩ := stampF_eq v.Stamp
      rw [he1, he2, he3]
      simp only [Option.bind_some]
      rw [First_eq _ (by simp), cerrs_two]
      simp only [Option.bind_some]
      by_cases h6 : orL [e1, e2] ≠ 0
      · right; rw [if_pos h6, if_pos h6]; exact ⟨_, rfl, rfl, fun h => absurd h h6⟩
      rw [if_neg h6, if_neg h6]
      unfold Q_CellsFault_k2
      by_cases hp : 0 < n
      · rw [if_pos hp, if_pos hp, w64_in (x := n - 1) (by omega) (by omega)]
        obtain ⟨z, hz, _, _⟩ := idx_lt c (i := n - 1) (by omega) (by omega)
        rw [hz]
        simp only [Option.bind_some]
        unfold twin_CheckCells_j1 Q_CellsFault_j1
        by_cases ho : (Op.bytesLess v.Prop_.Name z.Prop_.Name || v.Prop_.Name == z.Prop_.Name) = true
        · right; rw [if_pos ho]; exact ⟨7, rfl, rfl, fun h => by omega⟩
        · left; rw [if_neg ho, w64_in (by omega) (by omega)]
          refine ⟨_, rfl, rfl, ⟨by omega, by omega, cid_step cN h0 hv h2 fun x _ hx => ?_⟩, by omega⟩
          rw [hz] at hx
          obtain rfl := Option.some.inj hx
          rw [less_iff] at ho
          have ho' : ¬ Lib.compareBytes v.Prop_.Name z.Prop_.Name < 0 ∧ ¬ v.Prop_.Name = z.Prop_.Name := by simpa using ho
          have hneg := cmpB_neg v.Prop_.Name z.Prop_.Name
          have hz0 : Lib.compareBytes v.Prop_.Name z.Prop_.Name ≠ 0 := fun h => ho'.2 (cmpB_zero h)
          show Lib.compareBytes z.Prop_.Name v.Prop_.Name < 0
          omega
      · rw [if_neg hp, if_neg hp]
        left
        unfold twin_CheckCells_j1 Q_CellsFault_j1
        rw [if_neg (by simp), w64_in (by omega) (by omega)]
        exact ⟨_, rfl, rfl, ⟨by omega, by omega, cid_step cN h0 hv h2 fun x h _ => absurd h hp⟩, by omega⟩
    · rw [if_neg hn, if_neg hn]
      have hlen : n.toNat = c.length := by omega
      rw [hlen, List.take_length] at h2
      right
      exact ⟨0, rfl, rfl, fun _ => h2⟩
  obtain ⟨r, g1, g2, g3⟩ := key
  exact ⟨r, g1, g2, fun h => ⟨g3 h, by omega⟩⟩
/-! the order of stamps -/
def stO (a b : Stamp) : Int := if cmpI a.At b.At ≠ 0 then cmpI a.At b.At else if Lib.compareBytes a.By b.By ≠ 0 then Lib.compareBytes a.By b.By else cmpI a.No b.No
theorem byStamp_eq (a b : Stamp) : twin_byStamp a b = some (stO a b) := by
  unfold twin_byStamp
  rw [show cmp_Or_int [(cmp_Compare_int a.At b.At), (Lib.compareBytes a.By b.By), (cmp_Compare_int a.No b.No)] = some (orL [(cmp_Compare_int a.At b.At), (Lib.compareBytes a.By b.By), (cmp_Compare_int a.No b.No)]) from gOr_eq _ (by simp)]
  simp only [Option.bind_some]
  rw [CompareI_eq, CompareI_eq, orL3, orL2]
  unfold stO
  by_cases h1 : cmpI a.At b.At = 0 <;> by_cases h2 : Lib.compareBytes a.By b.By = 0 <;> simp [h1, h2]
theorem sign_cmpS {x y : Int} (hx : -1099511627777 ≤ x ∧ x ≤ 1099511627777) (hy : -1099511627777 ≤ y ∧ y ≤ 1099511627777) : Q_sign (w64 (x - y)) = cmpI x y := by
  rw [w64_in (by omega) (by omega)]
  unfold Q_sign cmpI
  repeat' split
  all_goals omega
theorem StampOrder_eq (a b : Stamp) (h1 : -1099511627777 ≤ a.At ∧ a.At ≤ 1099511627777) (h2 : -1099511627777 ≤ b.At ∧ b.At ≤ 1099511627777) (h3 : -1099511627777 ≤ a.No ∧ a.No ≤ 1099511627777) (h4 : -1099511627777 ≤ b.No ∧ b.No ≤ 1099511627777) : Q_StampOrder a b = stO a b := by
  unfold Q_StampOrder stO
  rw [sign_cmpS h1 h2, sign_cmpS h3 h4]
  by_cases c1 : a.At = b.At
  · have e1 : cmpI a.At b.At = 0 := by unfold cmpI; rw [if_neg (by omega), if_neg (by omega)]
    rw [if_neg (fun z : a.At ≠ b.At => z c1), if_neg (show ¬ (cmpI a.At b.At ≠ 0) by rw [e1]; simp)]
    by_cases c2 : a.By = b.By
    · have e2 : Lib.compareBytes a.By b.By = 0 := by rw [c2]; exact cmpB_self _
      rw [if_neg (fun z : a.By ≠ b.By => z c2), if_neg (show ¬ (Lib.compareBytes a.By b.By ≠ 0) by rw [e2]; simp)]
    · have e2 : Lib.compareBytes a.By b.By ≠ 0 := fun z => c2 (cmpB_zero z)
      rw [if_pos (show a.By ≠ b.By from c2), if_pos e2]
  · have e1 : cmpI a.At b.At ≠ 0 := by
      unfold cmpI
      split
      · simp
      · rw [if_pos (by omega)]; simp
    rw [if_pos (show a.At ≠ b.At from c1), if_pos e1]
/-! what hides what -/
def hdB (x y : Cell) : Bool :=
  if 0 < stO x.Stamp y.Stamp then abvB (cN x) (cN y) || (abvB (cN y) (cN x) && decide (y.Prop_.Value.Kind ≠ 0))
  else if stO x.Stamp y.Stamp = 0 then abvB (cN x) (cN y) && (decide (x.Prop_.Value.Kind ≠ 0) && decide (y.Prop_.Value.Kind ≠ 0)) else false
theorem hides_eq (x y : Cell) : twin_hides x y = some (hdB x y) := by
  unfold twin_hides
  rw [Below_eq, Below_eq, byStamp_eq]
  simp only [Option.bind_some]
  unfold twin_hides_j1 twin_hides_j2 hdB cN
  repeat' split
  all_goals rfl
theorem abv_len {a b : Str} (h : abvB a b = true) : a.length < b.length := by
  unfold abvB at h
  rw [List.isPrefixOf_iff_prefix] at h
  have := h.length_le
  simp at this; omega
theorem Qhides_eq (x y : Cell) (hx : (cN x).length ≤ 100000) (hy : (cN y).length ≤ 100000) (ho : Q_StampOrder x.Stamp y.Stamp = stO x.Stamp y.Stamp) : Q_hides x y = some (hdB x y) := by
  unfold Q_hides
  unfold cN at hx hy
  rw [Qabove_eq _ _ (by omega), Qabove_eq _ _ (by omega), ho]
  simp only [Option.bind_some]
  unfold Q_hides_j1 Q_hides_j2 hdB cN Q_valued
  by_cases h1 : abvB x.Prop_.Name y.Prop_.Name = true
  · have h2 : abvB y.Prop_.Name x.Prop_.Name = false := by
      cases h : abvB y.Prop_.Name x.Prop_.Name with
      | false => rfl
      | true => have := abv_len h1; have := abv_len h; omega
    rw [if_pos h1, h1, h2]
    by_cases c1 : 0 < stO x.Stamp y.Stamp
    · rw [if_pos c1]; simp [c1]
    · rw [if_neg c1]
      by_cases c2 : stO x.Stamp y.Stamp = 0
      · rw [if_pos c2]; simp [c2]
      · rw [if_neg c2]; simp [c1, c2]
  · rw [if_neg h1]
    have h1' : abvB x.Prop_.Name y.Prop_.Name = false := by simpa using h1
    rw [h1']
    by_cases h2 : abvB y.Prop_.Name x.Prop_.Name = true
    · rw [if_pos h2, h2]
      by_cases c1 : 0 < stO x.Stamp y.Stamp
      · rw [if_pos c1]; simp [c1]
      · rw [if_neg c1]; simp [c1]
    · rw [if_neg h2]
      have h2' : abvB y.Prop_.Name x.Prop_.Name = false := by simpa using h2
      rw [h2']
      simp
theorem hidden_eq (l : List Cell) (hl : l.length ≤ 1000) (y : Cell) (F : Cell → Option Bool) (g : Cell → Bool) (hF : ∀ x, F x = some (g x)) : twin_hidden l y F = some (l.any fun x => hdB x y && g x) := by
  unfold twin_hidden
  rw [show slices_ContainsFunc_Cell_Cell l (fun y0 => twin_hidden_1x y0 y F) = some (l.any fun x => hdB x y && g x) from gContainsFunc_eq l _ _ (fun x _ => by
    unfold twin_hidden_1x twin_hidden_1x_j1
    rw [hides_eq]
    simp only [Option.bind_some]
    cases h : hdB x y with
    | true => rw [if_pos rfl, hF]; rfl
    | false => rw [if_neg (by simp)]; rfl) (by omega)]
  rfl
theorem CL.order {l : List Cell} (h : CL l) {x y : Cell} (hx : x ∈ l) (hy : y ∈ l) : Q_StampOrder x.Stamp y.Stamp = stO x.Stamp y.Stamp :=
  StampOrder_eq _ _ (h.2 x hx).2.2.1 (h.2 y hy).2.2.1 (h.2 x hx).2.2.2 (h.2 y hy).2.2.2
theorem Qhidden_eq (l L : List Cell) (hL : CL L) (hl : l.length ≤ 1000) (hs : ∀ x ∈ l, x ∈ L) (y : Cell) (hy : y ∈ L) : Q_hidden l y = some (l.any fun x => hdB x y) := by
  unfold Q_hidden
  rw [show slices_ContainsFunc_Cell_Cell l (fun y0 => Q_hidden_1x y0 y) = some (l.any fun x => hdB x y) from gContainsFunc_eq l _ _ (fun x hx => by
    unfold Q_hidden_1x
    rw [Qhides_eq x y (hL.2 x (hs x hx)).1 (hL.2 y hy).1 (hL.order (hs x hx) hy)]
    rfl) (by omega)]
  rfl
end Go.Beacon

/- The properties under a name. No program in sight. -/
set_option linter.unusedVariables false
set_option linter.unusedSimpArgs false
namespace Go.Beacon
open Go Go.Eng

theorem cloneP_eq (a : List PropS) (h : a.length ≤ 100000) : slices_Clone_Prop_Prop a = some a := by
  unfold slices_Clone_Prop_Prop
  first
    | rfl
    | (simp [app]; omega)
    | (unfold app; rw [if_pos (by simp; omega)]; simp)
end Go.Beacon

/- PropsTell but for its generators. No program in sight. -/
set_option linter.unusedVariables false
set_option linter.unusedSimpArgs false
namespace Go.Beacon
open Go Go.Eng

end Go.Beacon

/- The generators of properties. No program in sight. -/
set_option linter.unusedVariables false
set_option linter.unusedSimpArgs false
namespace Go.Beacon
open Go Go.Eng

theorem mem_len {l : List Str} {n : Nat} (h : l.all (fun s => decide (s.length ≤ n)) = true) {v : Str} (hv : v ∈ l) : v.length ≤ n := by
  have := List.all_eq_true.1 h v hv
  simpa using this
theorem repA : repeatO ([97] : Str) (41 : Int) = some (Lib.repeatL ([97] : Str) (41 : Int).toNat) := by unfold repeatO; rw [if_pos ⟨by omega, by omega, by decide⟩]
theorem repW : repeatO ([119] : Str) (1001 : Int) = some (Lib.repeatL ([119] : Str) (1001 : Int).toNat) := by unfold repeatO; rw [if_pos ⟨by omega, by omega, by decide⟩]
theorem PropName_k {s : Stm} {K : Int} (hs : SOk s K) (hK : 2 ≤ K) : Gen (Stream_PropName s) (K - 2) (fun t => t.length ≤ 1000) := by
  refine Gen.of ?_
  unfold Stream_PropName
  refine Ok.gen (Flip_k hs (by omega) (by omega) (by omega)) (fun c s1 _ q1 => ?_)
  dsimp only
  split
  · rw [repA]
    simp only [Option.bind_some]
    refine Ok.gen (Some_k q1 (by omega) (by simp) (by simp)) (fun t s2 ht q2 => ?_)
    exact Ok.ret ⟨mem_len (by decide) ht, q2.less (by omega)⟩
  · refine Ok.gen (Some_k q1 (by omega) (by simp) (by simp)) (fun t s2 ht q2 => ?_)
    exact Ok.ret ⟨mem_len (by decide) ht, q2.less (by omega)⟩
theorem RightValue_k {s : Stm} {K : Int} (hs : SOk s K) (hK : 2 ≤ K) : Gen (Stream_RightValue s) (K - 2) (fun v => v.Words.length ≤ 1001) := by
  refine Gen.of ?_
  unfold Stream_RightValue
  refine Ok.gen (Next_k hs (by omega) (by omega) (by omega)) (fun c s1 _ q1 => ?_)
  dsimp only
  split
  · refine Ok.gen (Flip_k q1 (by omega) (by omega) (by omega)) (fun t s2 ht q2 => ?_)
    exact Ok.ret ⟨by simp, q2.less (by omega)⟩
  · split
    · refine Ok.gen (Some_k q1 (by omega) (by simp) (by simp)) (fun t s2 ht q2 => ?_)
      exact Ok.ret ⟨mem_len (n := 1001) (by decide) ht, q2.less (by omega)⟩
    · refine Ok.gen (Pick_k q1 (by omega) (by simp) (by simp)) (fun t s2 ht q2 => ?_)
      exact Ok.ret ⟨by simp, q2.less (by omega)⟩
theorem Value_k {s : Stm} {K : Int} (hs : SOk s K) (hK : 8 ≤ K) : Gen (Stream_Value s) (K - 8) (fun v => v.Words.length ≤ 1001) := by
  refine Gen.of ?_
  unfold Stream_Value Stream_Value_j5 Stream_Value_j4 Stream_Value_j3 Stream_Value_j2 Stream_Value_j1
  refine Ok.gen (RightValue_k hs (by omega)) (fun v s1 h1 q1 => ?_)
  refine Ok.gen (Flip_k q1 (by omega) (by omega) (by omega)) (fun c s2 _ q2 => ?_)
  dsimp only
  split
  · exact Ok.ret ⟨by simp, q2.less (by omega)⟩
  · refine Ok.gen (Flip_k q2 (by omega) (by omega) (by omega)) (fun c s3 _ q3 => ?_)
    dsimp only
    split
    · refine Ok.gen (Next_k q3 (by omega) (by omega) (by omega)) (fun n s4 _ q4 => ?_)
      dsimp only
      split
      · refine Ok.gen (Pick_k q4 (by omega) (by simp) (by simp)) (fun t s5 ht q5 => ?_)
        exact Ok.ret ⟨h1, q5.less (by omega)⟩
      · split
        · exact Ok.ret ⟨h1, q4.less (by omega)⟩
        · split
          · refine Ok.gen (Odd_k q4 (by omega) (by omega) (by omega) (by omega)) (fun t s5 ht q5 => ?_)
            exact Ok.ret ⟨h1, q5.less (by omega)⟩
          · split
            · rw [repW]
              simp only [Option.bind_some]
              refine Ok.gen (Some_k q4 (by omega) (by simp) (by simp)) (fun t s5 ht q5 => ?_)
              exact Ok.ret ⟨mem_len (n := 1001) (by decide +kernel) ht, q5.less (by omega)⟩
            · exact Ok.ret ⟨by simp, q4.less (by omega)⟩
    · exact Ok.ret ⟨h1, q3.less (by omega)⟩
/-- Few and short properties. -/
def PF (k : Nat) (l : List PropS) : Prop := l.length ≤ k ∧ ∀ p ∈ l, p.Name.length ≤ 1000 ∧ p.Value.Words.length ≤ 1001
theorem PF.pb {k : Nat} {l : List PropS} (h : PF k l) (hk : k ≤ 1000) : PB l := ⟨Nat.le_trans h.1 hk, fun p hp => ⟨by have := (h.2 p hp).1; omega, by have := (h.2 p hp).2; omega⟩⟩
theorem PF.snoc {k : Nat} {l : List PropS} {n : Str} {v : ValueS} (h : PF k l) (hn : n.length ≤ 1000) (hv : v.Words.length ≤ 1001) : PF (k + 1) (l ++ [⟨n, v⟩]) :=
  ⟨by have := h.1; simp; omega, fun p hp => by
    rcases List.mem_append.1 hp with e | e
    · exact h.2 p e
    · rw [List.mem_singleton] at e; subst e; exact ⟨hn, hv⟩⟩
theorem sortP_eq (l : List PropS) {k : Nat} (h : PF k l) (hk : k ≤ 1000) : ∃ Z, lenOk l.length (fun r : (List PropS) => r.length) (slices_SortFunc_Prop_Prop l (fun y0 y1 => some (propOrder y0 y1))) = some Z ∧ PF k Z := by
  obtain ⟨Z, h1, h2, _⟩ := sortO_eq (fun y0 y1 => some (propOrder y0 y1)) propOrder l (by have := h.1; omega) (fun a _ b _ => rfl) ((cmpB_3.on PropS.Name).ord l)
  refine ⟨Z, ?_, by rw [h2.length_eq]; exact h.1, fun p hp => h.2 p (h2.mem_iff.1 hp)⟩
  unfold slices_SortFunc_Prop_Prop lenOk
  rw [h1]
  simp [h2.length_eq]
theorem cloneG_eq (a : List PropS) (h : a.length ≤ 100000) : slices_Clone_Prop_Prop a = some a := cloneP_eq a h
theorem RightProps_loop (v1 : Int × Stm) (hv : v1.1 ≤ 5) : ∀ (m : Nat) (L : List Int) (a : Int) (l : List PropS) (n K : Int), n + m = v1.1 → 0 ≤ n → SOk ⟨L, a⟩ (K + 3 * m) → 0 ≤ K → PF n.toNat l → Gen (Stream_RightProps_l1 v1 L a l n) K (fun l => PF 5 l)
  | 0, L, a, l, n, K, hm, h0, hs, hK, hl => by
    unfold Stream_RightProps_l1
    rw [iter_eq]
    show Gen (Option.bind (Stream_RightProps_b1 v1 L a l n) _) _ _
    unfold Stream_RightProps_b1
    rw [if_neg (by omega)]
    exact ⟨l, ⟨L, a⟩, rfl, ⟨by have := hl.1; omega, hl.2⟩, hs.less (by omega)⟩
  | m + 1, L, a, l, n, K, hm, h0, hs, hK, hl => by
    have ih := RightProps_loop v1 hv m
    unfold Stream_RightProps_l1 at ih ⊢
    rw [iter_eq]
    show Gen (Option.bind (Stream_RightProps_b1 v1 L a l n) _) _ _
    unfold Stream_RightProps_b1 Stream_RightProps_j1
    have hln := hl.1
    rw [if_pos (by omega), cloneG_eq l (by omega)]
    simp only [Option.bind_some]
    obtain ⟨t, s2, e2, p2, q2⟩ := Some_k (s := ⟨L, a⟩) (l := [([97] : Str), ([97, 46, 120] : Str), ([97, 46, 121] : Str), ([97, 46, 120, 46, 112] : Str), ([98] : Str), ([98, 46, 122] : Str), ([97, 98] : Str)]) hs (by omega) (by simp) (by simp)
    rw [e2]
    simp only [Option.bind_some]
    obtain ⟨v, s3, e3, p3, q3⟩ := RightValue_k q2 (by omega)
    rw [e3]
    simp only [Option.bind_some]
    have ht : t.length ≤ 1000 := mem_len (by decide) p2
    have hsn := hl.snoc ht p3
    have happ : app l [(⟨t, v⟩ : PropS)] = some (l ++ [⟨t, v⟩]) := by unfold app; rw [if_pos (by simp; omega)]
    rw [happ]
    simp only [Option.bind_some]
    obtain ⟨Z, e4, p4⟩ := sortP_eq _ hsn (by omega)
    rw [e4]
    simp only [Option.bind_some]
    obtain ⟨r, _, e5, _⟩ := CheckProps_eq Z (p4.pb (by omega))
    rw [e5]
    simp only [Option.bind_some]
    rw [w64_in (by omega) (by omega)]
    have hnn : (n + 1).toNat = n.toNat + 1 := by omega
    split
    · exact ih s3.L s3.at_ Z (n + 1) K (by omega) (by omega) (q3.less (by omega)) hK (by rw [hnn]; exact p4)
    · exact ih s3.L s3.at_ l (n + 1) K (by omega) (by omega) (q3.less (by omega)) hK ⟨by omega, hl.2⟩
end Go.Beacon

/- PropsTell: the law. No program in sight. -/
set_option linter.unusedVariables false
set_option linter.unusedSimpArgs false
namespace Go.Beacon
open Go Go.Eng

theorem RightProps_k {s : Stm} {K : Int} (hs : SOk s K) (hK : 16 ≤ K) : Gen (Stream_RightProps s) (K - 16) (fun l => PF 5 l) := by
  unfold Stream_RightProps
  obtain ⟨v, s1, e1, p1, q1⟩ := Range_k (s := s) (a := 0) (b := 5) hs (by omega) (by omega) (by omega) (by omega)
  rw [e1]
  simp only [Option.bind_some]
  exact RightProps_loop (v, s1) p1.2 v.toNat s1.L s1.at_ [] 0 (K - 16) (by show (0 : Int) + (v.toNat : Int) = v; omega) (by omega) (q1.less (by have := p1.2; omega)) (by omega) ⟨by simp, by simp⟩
end Go.Beacon

/- The package twin compares: twinned. No program in sight. -/
set_option linter.unusedVariables false
set_option linter.unusedSimpArgs false
namespace Go.Beacon
open Go Go.Eng

def pA : PropS := ⟨[97], ⟨1, false, 0, []⟩⟩
theorem chk_nil : twin_CheckProps [] = some 0 := by
  unfold twin_CheckProps
  rw [if_neg (by simp)]
  unfold twin_CheckProps_l1
  rw [iter_eq]
  show Option.bind (twin_CheckProps_b1 [] 0) _ = _
  unfold twin_CheckProps_b1
  rw [if_neg (by simp)]
  unfold twin_CheckProps_l2
  rw [iter_eq]
  show Option.bind (Option.map _ (Option.bind (twin_CheckProps_b2 [] 0) _)) _ = _
  unfold twin_CheckProps_b2
  rw [if_neg (by simp)]
  rfl
theorem sn_one : SN [pA] := List.pairwise_singleton _ _
theorem vf_one : twin_valueFault pA.Value = some 0 := by
  rw [valueFault_eq _ (by simp [pA])]
  unfold Q_ValueFault pA
  rw [if_neg (by decide), if_pos rfl]
  unfold Q_ValueFault_j1
  rw [if_neg (by simp), if_neg (by decide), if_neg (by simp), Printed_eq _ (by simp)]
  rfl
theorem chk_one : twin_CheckProps [pA] = some 0 := by
  unfold twin_CheckProps
  rw [if_neg (by simp)]
  unfold twin_CheckProps_l1
  rw [iter_eq]
  show Option.bind (twin_CheckProps_b1 [pA] 0) _ = _
  have b0 : twin_CheckProps_b1 [pA] 0 = some (.inl 1) := by
    unfold twin_CheckProps_b1
    rw [if_pos (by simp), show idx [pA] 0 = some pA from rfl]
    simp only [Option.bind_some]
    rw [isName_eq (by simp [pA]), show dotB 8 pA.Name = true by decide]
    simp only [Option.bind_some]
    rw [if_neg (by simp), vf_one]
    simp only [Option.bind_some]
    rw [if_neg (by simp), if_neg (by simp [pA]), if_neg (by simp)]
    rfl
  rw [b0]
  show iter _ (1 : Int) = _
  rw [iter_eq]
  show Option.bind (twin_CheckProps_b1 [pA] 1) _ = _
  have l2 : twin_CheckProps_l2 [pA] 0 = some 0 := by
    unfold twin_CheckProps_l2
    rw [iter_eq]
    show Option.bind (twin_CheckProps_b2 [pA] 0) _ = _
    have c0 : twin_CheckProps_b2 [pA] 0 = some (.inl 1) := by
      unfold twin_CheckProps_b2
      rw [if_pos (by simp), show idx [pA] 0 = some pA from rfl]
      simp only [Option.bind_some]
      obtain ⟨r, h1, h2⟩ := above_eq pA.Name (by simp [pA]) (fun y0 => twin_CheckProps_1x y0 [pA]) (fun s => [pA].any fun q => decide (q.Name = s)) (fun s => has_eq [pA] (by simp) sn_one s)
      rw [h1]
      simp only [Option.bind_some]
      have hr : ¬ r = true := by
        intro h
        obtain ⟨i, g, _⟩ := h2.1 h
        match i, g with
        | 0, g => simp [pA] at g
        | i + 1, g => simp [pA] at g
      rw [if_neg hr]
      rfl
    rw [c0]
    show iter _ (1 : Int) = _
    rw [iter_eq]
    show Option.bind (twin_CheckProps_b2 [pA] 1) _ = _
    unfold twin_CheckProps_b2
    rw [if_neg (by simp)]
    rfl
  unfold twin_CheckProps_b1
  rw [if_neg (by simp), l2]
  rfl
theorem val_nil (s : Str) : twin_valueOf [] s = some ⟨0, false, 0, []⟩ := by
  obtain ⟨r, h1, h2⟩ := find_eq [] (by simp) List.Pairwise.nil s
  unfold twin_valueOf
  rw [h1]
  rcases h2 with ⟨p, _, g, _⟩ | ⟨rfl, _⟩
  · exact absurd (idx_mem g) (by simp)
  · rfl
theorem val_one : twin_valueOf [pA] [97] = some pA.Value := by
  obtain ⟨r, h1, h2⟩ := find_eq [pA] (by simp) sn_one [97]
  unfold twin_valueOf
  rw [h1]
  simp only [Option.bind_some]
  rcases h2 with ⟨p, g0, g, _⟩ | ⟨_, g⟩
  · have := idx_mem g
    rw [List.mem_singleton] at this
    subst this
    rw [if_pos g0, g]; rfl
  · exact absurd rfl (g pA (by simp))
theorem names_one : twin_names [[], [pA]] = some [[97]] := by
  unfold twin_names twin_names_l1
  rw [iter_eq]
  show Option.bind (twin_names_b1 [[], [pA]] [] 0) _ = _
  have s0 : twin_names_b1 [[], [pA]] [] 0 = some (.inl ([], 1)) := by
    unfold twin_names_b1
    rw [if_pos (by simp), show idx [[], [pA]] 0 = some [] from rfl]
    simp only [Option.bind_some]
    unfold twin_names_l2
    rw [iter_eq]
    show Option.bind (twin_names_b2 0 [] [] 0) _ = _
    unfold twin_names_b2
    rw [if_neg (by simp)]
    rfl
  rw [s0]
  show iter _ (([] : List Str), (1 : Int)) = _
  rw [iter_eq]
  show Option.bind (twin_names_b1 [[], [pA]] [] 1) _ = _
  have s1 : twin_names_b1 [[], [pA]] [] 1 = some (.inl ([[97]], 2)) := by
    unfold twin_names_b1
    rw [if_pos (by simp), show idx [[], [pA]] 1 = some [pA] from rfl]
    simp only [Option.bind_some]
    unfold twin_names_l2
    rw [iter_eq]
    show Option.bind (twin_names_b2 1 [pA] [] 0) _ = _
    have t0 : twin_names_b2 1 [pA] [] 0 = some (.inl ([[97]], 1)) := by
      unfold twin_names_b2
      rw [if_pos (by simp), show idx [pA] 0 = some pA from rfl]
      rfl
    rw [t0]
    show iter _ (([[97]] : List Str), (1 : Int)) = _
    rw [iter_eq]
    show Option.bind (twin_names_b2 1 [pA] [[97]] 1) _ = _
    unfold twin_names_b2
    rw [if_neg (by simp)]
    rfl
  rw [s1]
  show iter _ (([[97]] : List Str), (2 : Int)) = _
  rw [iter_eq]
  show Option.bind (twin_names_b1 [[], [pA]] [[97]] 2) _ = _
  unfold twin_names_b1
  rw [if_neg (by simp)]
  unfold twin_names_k1 slices_Sort_string_string sort1 lenOk srtS
  rw [if_pos (by simp), List.mergeSort_singleton]
  rfl
theorem twinned_eq : L_twinned = some true := by
  have hd : twin_Differ [] [pA] = some ([⟨[97], ⟨0, false, 0, []⟩, pA.Value⟩], 0) := by
    unfold twin_Differ
    rw [chk_nil, chk_one]
    simp only [Option.bind_some]
    rw [show base_First [0, 0] = some (orL [0, 0]) from gOr_eq _ (by simp), show orL [0, 0] = 0 from rfl]
    simp only [Option.bind_some]
    rw [if_neg (by simp), names_one]
    simp only [Option.bind_some]
    unfold twin_Differ_l1
    rw [iter_eq]
    show Option.bind (twin_Differ_b1 [] [pA] [[97]] [] 0) _ = _
    have t0 : twin_Differ_b1 [] [pA] [[97]] [] 0 = some (.inl ([⟨[97], ⟨0, false, 0, []⟩, pA.Value⟩], 1)) := by
      unfold twin_Differ_b1
      rw [if_pos (by simp), show idx ([[97]] : List Str) 0 = some [97] from rfl]
      simp only [Option.bind_some]
      rw [val_nil, val_one]
      simp only [Option.bind_some]
      rw [if_pos (by simp [pA])]
      rfl
    rw [t0]
    show iter _ (([⟨[97], ⟨0, false, 0, []⟩, pA.Value⟩] : List Change), (1 : Int)) = _
    rw [iter_eq]
    show Option.bind (twin_Differ_b1 [] [pA] [[97]] [⟨[97], ⟨0, false, 0, []⟩, pA.Value⟩] 1) _ = _
    unfold twin_Differ_b1
    rw [if_neg (by simp)]
    rfl
  unfold L_twinned
  rw [show (⟨([97] : Str), (⟨(1 : Int), false, (0 : Int), []⟩ : ValueS)⟩ : PropS) = pA from rfl, hd]
  rfl
end Go.Beacon

/- Visible and compact cells; the generator of cells. No program in sight. -/
set_option linter.unusedVariables false
set_option linter.unusedSimpArgs false
namespace Go.Beacon
open Go Go.Eng

/-! what is seen -/
def visG (l : List Cell) (c : Cell) : List PropS := if (decide (c.Prop_.Value.Kind ≠ 0) && !(l.any fun x => hdB x c)) = true then [c.Prop_] else []
theorem visG_len (l : List Cell) (c : Cell) : (visG l c).length ≤ 1 := by unfold visG; split <;> simp
theorem visible_eq (l : List Cell) (hl : l.length ≤ 1000) : twin_visible l = some (l.flatMap (visG l)) := by
  unfold twin_visible twin_visible_l1
  refine iter_flC l (visG l) (visG_len l) _ _ [] (fun X i x h0 h1 hx hm hX => ?_) (fun i hi => ?_)
  · simp only [List.length_nil] at hX
    simp only
    rw [twin_visible_b1, if_pos h1, hx]
    simp only [Option.bind_some]
    have j1 : ∀ c : Bool, c = (decide (x.Prop_.Value.Kind ≠ 0) && !(l.any fun z => hdB z x)) → twin_visible_j1 X i x c = some (.inl (X ++ visG l x, i + 1)) := by
      intro c hc
      unfold twin_visible_j1 twin_visible_j2 visG
      rw [← hc, w64_in (by omega) (by omega)]
      by_cases h : c = true
      · rw [if_pos h, if_pos h, app_le (by simp; omega)]; rfl
      · rw [if_neg h, if_neg h, List.append_nil]
    by_cases hk : x.Prop_.Value.Kind ≠ 0
    · rw [if_pos hk, hidden_eq l hl x (fun y0 => some (twin_every y0)) (fun _ => true) (fun z => rfl)]
      simp only [Option.bind_some, Bool.and_true]
      exact j1 _ (by rw [decide_eq_true hk]; rfl)
    · rw [if_neg hk]
      exact j1 _ (by rw [decide_eq_false hk]; rfl)
  · simp only
    rw [twin_visible_b1, if_neg (by omega)]; rfl
theorem VisibleOf_eq (l : List Cell) (hL : CL l) : Q_VisibleOf l = some (l.flatMap (visG l)) := by
  have hl := hL.1
  unfold Q_VisibleOf Q_VisibleOf_l1
  refine iter_flC l (visG l) (visG_len l) _ _ [] (fun X i x h0 h1 hx hm hX => ?_) (fun i hi => ?_)
  · simp only [List.length_nil] at hX
    simp only
    rw [Q_VisibleOf_b1, if_pos h1, hx]
    simp only [Option.bind_some]
    have j1 : ∀ c : Bool, c = (decide (x.Prop_.Value.Kind ≠ 0) && !(l.any fun z => hdB z x)) → Q_VisibleOf_j1 X i x c = some (.inl (X ++ visG l x, i + 1)) := by
      intro c hc
      unfold Q_VisibleOf_j1 Q_VisibleOf_j2 visG
      rw [← hc, w64_in (by omega) (by omega)]
      by_cases h : c = true
      · rw [if_pos h, if_pos h, app_le (by simp; omega)]; rfl
      · rw [if_neg h, if_neg h, List.append_nil]
    unfold Q_valued
    by_cases hk : x.Prop_.Value.Kind ≠ 0
    · rw [if_pos (decide_eq_true hk), Qhidden_eq l l hL hl (fun z hz => hz) x hm]
      simp only [Option.bind_some]
      exact j1 _ (by rw [decide_eq_true hk]; rfl)
    · rw [if_neg (by rw [decide_eq_false hk]; simp)]
      exact j1 _ (by rw [decide_eq_false hk]; rfl)
  · simp only
    rw [Q_VisibleOf_b1, if_neg (by omega)]; rfl
/-! the generator -/
def CG (k : Nat) (l : List Cell) : Prop := l.length ≤ k ∧ ∀ c ∈ l, (cN c).length ≤ 1000 ∧ c.Prop_.Value.Words.length ≤ 1001 ∧ (-1099511627777 ≤ c.Stamp.At ∧ c.Stamp.At ≤ 1099511627777) ∧ (-1099511627777 ≤ c.Stamp.No ∧ c.Stamp.No ≤ 1099511627777)
theorem CG.cl {k : Nat} {l : List Cell} (h : CG k l) (hk : k ≤ 1000) : CL l := ⟨Nat.le_trans h.1 hk, fun c hc => by have := h.2 c hc; omega⟩
theorem CG.snoc {k : Nat} {l : List Cell} (h : CG k l) {c : Cell} (hc : (cN c).length ≤ 1000 ∧ c.Prop_.Value.Words.length ≤ 1001 ∧ (-1099511627777 ≤ c.Stamp.At ∧ c.Stamp.At ≤ 1099511627777) ∧ (-1099511627777 ≤ c.Stamp.No ∧ c.Stamp.No ≤ 1099511627777)) : CG (k + 1) (l ++ [c]) :=
  ⟨by have := h.1; simp; omega, fun x hx => by
    rcases List.mem_append.1 hx with e | e
    · exact h.2 x e
    · rw [List.mem_singleton] at e; subst e; exact hc⟩
def ZC : Cell := ⟨⟨[], ⟨0, false, 0, []⟩⟩, ⟨0, [], 0⟩⟩
theorem cstable_gen (cf : Cell → Cell → Int) (h3 : Cmp3 cf) (f : Cell → Cell → Option Int) (xs : List Cell) (hl : (xs.length : Int) < 20) (hf : ∀ x ∈ xs, ∀ y ∈ xs, f x y = some (cf x y)) : ∃ Z, lenOk xs.length (fun r : List Cell => r.length) (slices_SortStableFunc_Cell_Cell xs f) = some Z ∧ Z.Perm xs ∧ Srt cf Z := by
  obtain ⟨Z, h1, h2, h3⟩ := gIns_eq f cf xs (by omega) hf (h3.ord xs)
  have h1' : slices_insertionSortCmpFunc_Cell xs 0 xs.length f = some Z := h1
  have hlen := h2.length_eq
  refine ⟨Z, ?_, h2, h3⟩
  have hs : slices_stableCmpFunc_Cell xs xs.length f = some Z := by
    unfold slices_stableCmpFunc_Cell slices_stableCmpFunc_Cell_l1
    rw [iter_eq, slices_stableCmpFunc_Cell_b1, if_neg (by simp only; omega), map_inr_after]
    unfold slices_stableCmpFunc_Cell_k3
    simp only
    rw [len_ok h1' hlen]
    simp only [Option.bind_some]
    unfold slices_stableCmpFunc_Cell_l2
    rw [iter_eq, slices_stableCmpFunc_Cell_b2, if_neg (by simp only; omega), map_inr_after]
  refine len_ok ?_ hlen
  unfold slices_SortStableFunc_Cell_Cell
  rw [len_ok hs hlen]; rfl
theorem cstable_len (f : Cell → Cell → Option Int) (xs : List Cell) (hl : (xs.length : Int) < 20) (hf : ∀ x ∈ xs, ∀ y ∈ xs, f x y = some (cellOrder x y)) : ∃ Z, lenOk xs.length (fun r : List Cell => r.length) (slices_SortStableFunc_Cell_Cell xs f) = some Z ∧ Z.Perm xs ∧ Srt cellOrder Z :=
  cstable_gen cellOrder (cmpB_3.on cN) f xs hl hf
theorem ccompactF_eq (f : Cell → Cell → Option Bool) (e : Cell → Cell → Bool) (xs : List Cell) (hl : (xs.length : Int) ≤ 100000) (hf : ∀ x ∈ xs, ∀ y ∈ xs, f x y = some (e x y)) : slices_CompactFunc_Cell_Cell xs f = some (dd e xs) := gCptF_eq ZC f e xs hl hf
theorem CG.perm {k : Nat} {l Z : List Cell} (h : CG k l) (hp : Z.Perm l) : CG k Z := ⟨by rw [hp.length_eq]; exact h.1, fun c hc => h.2 c (hp.mem_iff.1 hc)⟩
theorem CG.sub {k : Nat} {l Z : List Cell} (h : CG k l) (hp : Z.Sublist l) : CG k Z := ⟨Nat.le_trans hp.length_le h.1, fun c hc => h.2 c (hp.subset hc)⟩
theorem RightStamp_k {s : Stm} {K : Int} (hs : SOk s K) (hK : 3 ≤ K) : Gen (Stream_RightStamp s) (K - 3) (fun t => (0 ≤ t.At ∧ t.At ≤ 9) ∧ (0 ≤ t.No ∧ t.No ≤ 1)) := by
  refine Gen.of ?_
  unfold Stream_RightStamp
  refine Ok.gen (Range_k hs (by omega) (by omega) (by omega) (by omega)) (fun a s1 ha q1 => ?_)
  refine Ok.gen (Some_k q1 (by omega) (by simp) (by simp)) (fun b s2 hb q2 => ?_)
  refine Ok.gen (Pick_k q2 (by omega) (by simp) (by simp)) (fun c s3 hc q3 => ?_)
  refine Ok.ret ⟨⟨ha, ?_⟩, q3.less (by omega)⟩
  simp at hc
  simp only
  omega
theorem Stamp_k {s : Stm} {K : Int} (hs : SOk s K) (hK : 9 ≤ K) : Gen (Stream_Stamp s) (K - 9) (fun t => (-1099511627777 ≤ t.At ∧ t.At ≤ 1099511627777) ∧ (-1099511627777 ≤ t.No ∧ t.No ≤ 1099511627777)) := by
  refine Gen.of ?_
  unfold Stream_Stamp Stream_Stamp_j1
  refine Ok.gen (RightStamp_k hs (by omega)) (fun a s1 ha q1 => ?_)
  refine Ok.gen (Flip_k q1 (by omega) (by omega) (by omega)) (fun c s2 _ q2 => ?_)
  dsimp only
  split
  · refine Ok.gen (Odd_k q2 (by omega) (by omega) (by omega) (by omega)) (fun b s3 hb q3 => ?_)
    refine Ok.gen (Some_k q3 (by omega) (by simp) (by simp)) (fun d s4 hd q4 => ?_)
    refine Ok.gen (Odd_k q4 (by omega) (by omega) (by omega) (by omega)) (fun e s5 he q5 => ?_)
    exact Ok.ret ⟨⟨hb, he⟩, q5.less (by omega)⟩
  · exact Ok.ret ⟨⟨by simp only; omega, by simp only; omega⟩, q2.less (by omega)⟩
end Go.Beacon

/- Merging cells: side by side, or by a map over all in order of their stamps. No program in sight. -/
set_option linter.unusedVariables false
set_option linter.unusedSimpArgs false
namespace Go.Beacon
open Go Go.Eng

theorem stO_3 : Cmp3 stO := Cmp3.lex (cmpI_3.on Stamp.At) (Cmp3.lex (cmpB_3.on Stamp.By) (cmpI_3.on Stamp.No))
theorem cmpI_zeroS {a b : Int} (h : cmpI a b = 0) : a = b := by
  unfold cmpI at h
  split at h
  · omega
  · split at h
    · omega
    · omega
theorem stO_zero {a b : Stamp} (h : stO a b = 0) : a = b := by
  unfold stO at h
  by_cases h1 : cmpI a.At b.At = 0
  · rw [if_neg (by simpa using h1)] at h
    by_cases h2 : Lib.compareBytes a.By b.By = 0
    · rw [if_neg (by simpa using h2)] at h
      cases a; cases b
      simp only at h h1 h2
      rw [cmpI_zeroS h, cmpI_zeroS h1, cmpB_zero h2]
    · rw [if_pos h2] at h; exact absurd h h2
  · rw [if_pos h1] at h; exact absurd h h1
/-- Of two cells of a name the one with the greater stamp. -/
def newer (x y : Cell) : Cell := if 0 ≤ stO x.Stamp y.Stamp then x else y
/-- Both lists side by side; nothing where they conflict. -/
def jn : List Cell → List Cell → Option (List Cell)
  | [], b => some b
  | x :: a, [] => some (x :: a)
  | x :: a, y :: b =>
    if Lib.compareBytes (cN x) (cN y) < 0 then (jn a (y :: b)).map (x :: ·)
    else if 0 < Lib.compareBytes (cN x) (cN y) then (jn (x :: a) b).map (y :: ·)
    else if stO x.Stamp y.Stamp = 0 ∧ x.Prop_.Value ≠ y.Prop_.Value then none
    else (jn a b).map (newer x y :: ·)
termination_by a b => a.length + b.length
def comb : Option Cell → Option Cell → Option Cell
  | none, y => y
  | some x, none => some x
  | some x, some y => some (newer x y)
/-- They conflict at a name. -/
def clash : Option Cell → Option Cell → Prop
  | some x, some y => stO x.Stamp y.Stamp = 0 ∧ x.Prop_.Value ≠ y.Prop_.Value
  | _, _ => False
theorem gt_lt {x : Cell} {L : List Cell} (h : SId cN (x :: L)) {k : Str} (hk : Lib.compareBytes k (cN x) < 0) : gt cN (x :: L) k = none := SId.none_lt cN h hk
theorem cmp_irr (s : Str) : ¬ Lib.compareBytes s s < 0 := by rw [cmpB_self]; omega
theorem jn_spec : ∀ (n : Nat) (a b : List Cell), a.length + b.length ≤ n → SId cN a → SId cN b →
    (jn a b = none ∧ ∃ k, clash (gt cN a k) (gt cN b k)) ∨ (∃ r, jn a b = some r ∧ (∀ k, ¬ clash (gt cN a k) (gt cN b k)) ∧ SId cN r ∧ (∀ k, gt cN r k = comb (gt cN a k) (gt cN b k)) ∧ r.length ≤ a.length + b.length)
  | n, [], b, hn, ha, hb => by
    right
    refine ⟨b, by rw [jn], fun k h => h, hb, fun k => rfl, by simp⟩
  | n, x :: a, [], hn, ha, hb => by
    right
    refine ⟨x :: a, by rw [jn], fun k h => ?_, ha, fun k => ?_, by simp⟩
    · revert h; rw [gt_nil]; cases gt cN (x :: a) k <;> exact fun h => h
    · rw [gt_nil]; cases gt cN (x :: a) k <;> rfl
  | 0, x :: a, y :: b, hn, ha, hb => by simp at hn
  | n + 1, x :: a, y :: b, hn, ha, hb => by
    have ha1 := List.pairwise_cons.1 ha
    have hb1 := List.pairwise_cons.1 hb
    have hneg := cmpB_neg (cN x) (cN y)
    simp only [List.length_cons] at hn
    rcases Int.lt_trichotomy (Lib.compareBytes (cN x) (cN y)) 0 with h | h | h
    · have ih := jn_spec n a (y :: b) (by simp only [List.length_cons]; omega) ha1.2 hb
      have hyx : gt cN (y :: b) (cN x) = none := gt_lt hb h
      have hxa : gt cN a (cN x) = none := (gt_none cN).2 (fun z hz e => by have := ha1.1 z hz; rw [e] at this; exact cmp_irr _ this)
      rcases ih with ⟨i1, k, i2⟩ | ⟨r, i1, i2, i3, i4, i5⟩
      · left
        refine ⟨by rw [jn, if_pos h, i1]; rfl, k, ?_⟩
        rw [gt_cons]
        by_cases e : cN x = k
        · subst e; rw [hxa] at i2; exact absurd i2 (fun h => h)
        · rw [if_neg e]; exact i2
      · right
        refine ⟨x :: r, by rw [jn, if_pos h, i1]; rfl, fun k hk => ?_, ?_, fun k => ?_, by simp only [List.length_cons] at i5 ⊢; omega⟩
        · rw [gt_cons] at hk
          by_cases e : cN x = k
          · subst e; rw [if_pos rfl, hyx] at hk; exact hk
          · rw [if_neg e] at hk; exact i2 k hk
        · refine List.pairwise_cons.2 ⟨fun z hz => ?_, i3⟩
          have hzk : gt cN r (cN z) = some z := gt_mem cN (SId.ne cN i3) hz
          rw [i4] at hzk
          cases ga : gt cN a (cN z) with
          | some u =>
            obtain ⟨gu, gn⟩ := gt_some cN ga
            rw [← gn]; exact ha1.1 u gu
          | none =>
            rw [ga] at hzk
            have hzb : gt cN (y :: b) (cN z) = some z := hzk
            have hm := (gt_some cN hzb).1
            rcases List.mem_cons.1 hm with e | e
            · rw [e]; exact h
            · exact cmpB_tr h (hb1.1 z e)
        · rw [gt_cons, gt_cons]
          by_cases e : cN x = k
          · subst e; rw [if_pos rfl, if_pos rfl, hyx]; rfl
          · rw [if_neg e, if_neg e]; exact i4 k
    · have hxy : cN x = cN y := cmpB_zero h
      have hxa : gt cN a (cN x) = none := (gt_none cN).2 (fun z hz e => by have := ha1.1 z hz; rw [e] at this; exact cmp_irr _ this)
      have hyb : gt cN b (cN x) = none := (gt_none cN).2 (fun z hz e => by have := hb1.1 z hz; rw [e, hxy] at this; exact cmp_irr _ this)
      have gx : gt cN (x :: a) (cN x) = some x := by rw [gt_cons, if_pos rfl]
      have gy : gt cN (y :: b) (cN x) = some y := by rw [gt_cons, if_pos hxy.symm]
      by_cases hc : stO x.Stamp y.Stamp = 0 ∧ x.Prop_.Value ≠ y.Prop_.Value
      · left
        refine ⟨by rw [jn, if_neg (by omega), if_neg (by omega), if_pos hc], cN x, ?_⟩
        rw [gx, gy]; exact hc
      · have ih := jn_spec n a b (by omega) ha1.2 hb1.2
        have hkk : ∀ k, cN x ≠ k → gt cN (x :: a) k = gt cN a k ∧ gt cN (y :: b) k = gt cN b k := fun k e =>
          ⟨by rw [gt_cons, if_neg e], by rw [gt_cons, if_neg (by rw [← hxy]; exact e)]⟩
        rcases ih with ⟨i1, k, i2⟩ | ⟨r, i1, i2, i3, i4, i5⟩
        · left
          refine ⟨by rw [jn, if_neg (by omega), if_neg (by omega), if_neg hc, i1]; rfl, k, ?_⟩
          by_cases e : cN x = k
          · subst e; rw [hxa] at i2; exact absurd i2 (fun h => h)
          · rw [(hkk k e).1, (hkk k e).2]; exact i2
        · right
          have hnw : cN (newer x y) = cN x := by
            unfold newer
            split
            · rfl
            · exact hxy.symm
          refine ⟨newer x y :: r, by rw [jn, if_neg (by omega), if_neg (by omega), if_neg hc, i1]; rfl, fun k hk => ?_, ?_, fun k => ?_, by simp only [List.length_cons]; omega⟩
          · by_cases e : cN x = k
            · subst e; rw [gx, gy] at hk; exact hc hk
            · rw [(hkk k e).1, (hkk k e).2] at hk; exact i2 k hk
          · refine List.pairwise_cons.2 ⟨fun z hz => ?_, i3⟩
            rw [hnw]
            have hzk : gt cN r (cN z) = some z := gt_mem cN (SId.ne cN i3) hz
            rw [i4] at hzk
            cases ga : gt cN a (cN z) with
            | some u =>
              obtain ⟨gu, gn⟩ := gt_some cN ga
              rw [← gn]; exact ha1.1 u gu
            | none =>
              rw [ga] at hzk
              have hzb : gt cN b (cN z) = some z := hzk
              rw [hxy]; exact hb1.1 z (gt_some cN hzb).1
          · rw [gt_cons]
            by_cases e : cN x = k
            · subst e; rw [if_pos hnw, gx, gy]; rfl
            · rw [if_neg (by rw [hnw]; exact e), (hkk k e).1, (hkk k e).2]; exact i4 k
    · have hyx : Lib.compareBytes (cN y) (cN x) < 0 := by omega
      have ih := jn_spec n (x :: a) b (by simp only [List.length_cons]; omega) ha hb1.2
      have hxy : gt cN (x :: a) (cN y) = none := gt_lt ha hyx
      have hyb : gt cN b (cN y) = none := (gt_none cN).2 (fun z hz e => by have := hb1.1 z hz; rw [e] at this; exact cmp_irr _ this)
      rcases ih with ⟨i1, k, i2⟩ | ⟨r, i1, i2, i3, i4, i5⟩
      · left
        refine ⟨by rw [jn, if_neg (by omega), if_pos h, i1]; rfl, k, ?_⟩
        rw [gt_cons cN y]
        by_cases e : cN y = k
        · subst e; rw [hyb] at i2; revert i2; cases gt cN (x :: a) (cN y) <;> exact fun h => absurd h (fun h => h)
        · rw [if_neg e]; exact i2
      · right
        refine ⟨y :: r, by rw [jn, if_neg (by omega), if_pos h, i1]; rfl, fun k hk => ?_, ?_, fun k => ?_, by simp only [List.length_cons] at i5 ⊢; omega⟩
        · rw [gt_cons cN y] at hk
          by_cases e : cN y = k
          · subst e; rw [hxy] at hk; exact hk
          · rw [if_neg e] at hk; exact i2 k hk
        · refine List.pairwise_cons.2 ⟨fun z hz => ?_, i3⟩
          have hzk : gt cN r (cN z) = some z := gt_mem cN (SId.ne cN i3) hz
          rw [i4] at hzk
          cases ga : gt cN (x :: a) (cN z) with
          | some u =>
            obtain ⟨gu, gn⟩ := gt_some cN ga
            rw [← gn]
            rcases List.mem_cons.1 gu with e | e
            · rw [e]; exact hyx
            · exact cmpB_tr hyx (ha1.1 u e)
          | none =>
            rw [ga] at hzk
            have hzb : gt cN b (cN z) = some z := hzk
            exact hb1.1 z (gt_some cN hzb).1
        · rw [gt_cons cN y, gt_cons cN y]
          by_cases e : cN y = k
          · subst e; rw [if_pos rfl, if_pos rfl, hxy]; rfl
          · rw [if_neg e, if_neg e]; exact i4 k
/-! the reference: a map of the last cell of each name -/
def bad1 (m : List (Str × Cell)) (c : Cell) : Bool := match mget? m (cN c) with
  | some o => decide (stO o.Stamp c.Stamp = 0) && decide (o ≠ c)
  | none => false
def lp : List (Str × Cell) → List Cell → Option (List (Str × Cell))
  | m, [] => some m
  | m, c :: T => if bad1 m c = true then none else lp (mset m (cN c) c) T
def cfl : Option Cell → List Cell → Prop
  | _, [] => False
  | o, c :: T => (∃ z, o = some z ∧ stO z.Stamp c.Stamp = 0 ∧ z ≠ c) ∨ cfl (some c) T
def lastO : Option Cell → List Cell → Option Cell
  | o, [] => o
  | _, c :: T => lastO (some c) T
theorem bad1_iff (m : List (Str × Cell)) (c : Cell) : bad1 m c = true ↔ ∃ z, mget? m (cN c) = some z ∧ stO z.Stamp c.Stamp = 0 ∧ z ≠ c := by
  unfold bad1
  cases mget? m (cN c) with
  | none => simp
  | some o => simp
/-- The cells of a name. -/
abbrev ofN (S : List Cell) (k : Str) : List Cell := S.filter (fun c => decide (cN c = k))
theorem lp_spec : ∀ (S : List Cell) (m : List (Str × Cell)), (lp m S = none ∧ ∃ k, cfl (mget? m k) (ofN S k)) ∨ (∃ m', lp m S = some m' ∧ (∀ k, ¬ cfl (mget? m k) (ofN S k)) ∧ ∀ k, mget? m' k = lastO (mget? m k) (ofN S k))
  | [], m => .inr ⟨m, rfl, fun k h => h, fun k => rfl⟩
  | c :: T, m => by
    have f1 : ofN (c :: T) (cN c) = c :: ofN T (cN c) := List.filter_cons_of_pos (by simp)
    have f2 : ∀ k, cN c ≠ k → ofN (c :: T) k = ofN T k := fun k e => List.filter_cons_of_neg (by simpa using e)
    by_cases hb : bad1 m c = true
    · left
      refine ⟨by rw [lp, if_pos hb], cN c, ?_⟩
      rw [f1]
      exact .inl ((bad1_iff m c).1 hb)
    · have ih := lp_spec T (mset m (cN c) c)
      have g1 : mget? (mset m (cN c) c) (cN c) = some c := by rw [mget_mset, if_pos rfl]
      have g2 : ∀ k, cN c ≠ k → mget? (mset m (cN c) c) k = mget? m k := fun k e => by rw [mget_mset, if_neg e]
      rcases ih with ⟨i1, k, i2⟩ | ⟨m', i1, i2, i3⟩
      · left
        refine ⟨by rw [lp, if_neg hb, i1], k, ?_⟩
        by_cases e : cN c = k
        · subst e
          rw [g1] at i2
          rw [f1]
          exact .inr i2
        · rw [g2 k e] at i2
          rw [f2 k e]; exact i2
      · right
        refine ⟨m', by rw [lp, if_neg hb, i1], fun k hk => ?_, fun k => ?_⟩
        · by_cases e : cN c = k
          · subst e
            rw [f1] at hk
            rcases hk with h | h
            · exact hb ((bad1_iff m c).2 h)
            · rw [← g1] at h; exact i2 _ h
          · rw [f2 k e, ← g2 k e] at hk; exact i2 k hk
        · rw [i3 k]
          by_cases e : cN c = k
          · subst e; rw [g1, f1]; rfl
          · rw [g2 k e, f2 k e]
theorem filter_gt {a : List Cell} (h : SId cN a) (k : Str) : ofN a k = (gt cN a k).toList := by
  induction a with
  | nil => rfl
  | cons x a ih =>
    have h1 := List.pairwise_cons.1 h
    rw [gt_cons]
    by_cases e : cN x = k
    · rw [if_pos e, show ofN (x :: a) k = x :: ofN a k from List.filter_cons_of_pos (by simpa using e), ih h1.2]
      have : gt cN a k = none := (gt_none cN).2 (fun z hz e2 => by have := h1.1 z hz; rw [e, e2] at this; exact cmp_irr _ this)
      rw [this]; rfl
    · rw [if_neg e, show ofN (x :: a) k = ofN a k from List.filter_cons_of_neg (by simpa using e), ih h1.2]
theorem perm_pair {α : Type} {l : List α} {x y : α} (h : l.Perm [x, y]) : l = [x, y] ∨ l = [y, x] := by
  have hl := h.length_eq
  match l, hl with
  | [p, q], _ =>
    have hp : p ∈ [x, y] := h.mem_iff.1 (by simp)
    rcases List.mem_cons.1 hp with e | e
    · subst e
      have := (List.perm_cons p).1 h
      rw [List.perm_singleton] at this
      left; simpa using this
    · rw [List.mem_singleton] at e
      subst e
      have := (List.perm_cons p).1 (h.trans (List.Perm.swap _ _ _))
      rw [List.perm_singleton] at this
      right; simpa using this
/-- At a name both tell the same. -/
theorem at_name {a b S : List Cell} (ha : SId cN a) (hb : SId cN b) (hp : S.Perm (a ++ b)) (hs : Srt (fun x y : Cell => stO x.Stamp y.Stamp) S) (k : Str) : (cfl none (ofN S k) ↔ clash (gt cN a k) (gt cN b k)) ∧ (¬ cfl none (ofN S k) → lastO none (ofN S k) = comb (gt cN a k) (gt cN b k)) := by
  have hk : (ofN S k).Perm ((gt cN a k).toList ++ (gt cN b k).toList) := by
    rw [← filter_gt ha k, ← filter_gt hb k]
    have := hp.filter (fun c => decide (cN c = k))
    rw [List.filter_append] at this
    exact this
  have hsk : Srt (fun x y : Cell => stO x.Stamp y.Stamp) (ofN S k) := List.Pairwise.filter _ hs
  generalize ofN S k = F at hk hsk
  cases ga : gt cN a k with
  | none =>
    cases gb : gt cN b k with
    | none =>
      rw [ga, gb] at hk
      have : F = [] := List.perm_nil.1 (by simpa using hk)
      subst this
      exact ⟨Iff.rfl, fun _ => rfl⟩
    | some y =>
      rw [ga, gb] at hk
      have : F = [y] := List.perm_singleton.1 (by simpa using hk)
      subst this
      exact ⟨by simp [cfl, clash], fun _ => rfl⟩
  | some x =>
    cases gb : gt cN b k with
    | none =>
      rw [ga, gb] at hk
      have : F = [x] := List.perm_singleton.1 (by simpa using hk)
      subst this
      exact ⟨by simp [cfl, clash], fun _ => rfl⟩
    | some y =>
      rw [ga, gb] at hk
      have hk2 : F.Perm [x, y] := by simpa using hk
      have nx : x.Prop_.Name = y.Prop_.Name := by
        have h1 : cN x = k := (gt_some cN ga).2
        have h2 : cN y = k := (gt_some cN gb).2
        exact h1.trans h2.symm
      have hne : stO x.Stamp y.Stamp = 0 → (x ≠ y ↔ x.Prop_.Value ≠ y.Prop_.Value) := by
        intro h0
        have hst := stO_zero h0
        constructor
        · intro h e
          apply h
          cases x with | mk p s => cases y with | mk q t =>
          cases p; cases q
          simp only at nx hst e
          subst nx; subst hst; subst e; rfl
        · intro h e; subst e; exact h rfl
      have hneg := stO_3.neg x.Stamp y.Stamp
      rcases perm_pair hk2 with e | e
      · subst e
        have hle : ¬ stO y.Stamp x.Stamp < 0 := by
          have := List.pairwise_cons.1 hsk
          exact this.1 y (by simp)
        refine ⟨?_, fun hc => ?_⟩
        · show ((∃ z, none = some z ∧ _) ∨ ((∃ z, some x = some z ∧ stO z.Stamp y.Stamp = 0 ∧ z ≠ y) ∨ False)) ↔ _
          constructor
          · rintro (⟨z, h, _⟩ | (⟨z, h, h1, h2⟩ | h))
            · cases h
            · obtain rfl := Option.some.inj h
              exact ⟨h1, (hne h1).1 h2⟩
            · exact h.elim
          · rintro ⟨h1, h2⟩
            exact .inr (.inl ⟨x, rfl, h1, (hne h1).2 h2⟩)
        · show some y = some (newer x y)
          unfold newer
          by_cases h0 : stO x.Stamp y.Stamp = 0
          · rw [if_pos (by omega)]
            by_cases hxy : x = y
            · rw [hxy]
            · exact absurd (show cfl none [x, y] from .inr (.inl ⟨x, rfl, h0, hxy⟩)) hc
          · rw [if_neg (by omega)]
      · subst e
        have hle : ¬ stO x.Stamp y.Stamp < 0 := by
          have := List.pairwise_cons.1 hsk
          exact this.1 x (by simp)
        refine ⟨?_, fun hc => ?_⟩
        · show ((∃ z, none = some z ∧ _) ∨ ((∃ z, some y = some z ∧ stO z.Stamp x.Stamp = 0 ∧ z ≠ x) ∨ False)) ↔ _
          constructor
          · rintro (⟨z, h, _⟩ | (⟨z, h, h1, h2⟩ | h))
            · cases h
            · obtain rfl := Option.some.inj h
              have h0 : stO x.Stamp y.Stamp = 0 := by omega
              exact ⟨h0, (hne h0).1 (Ne.symm h2)⟩
            · exact h.elim
          · rintro ⟨h1, h2⟩
            exact .inr (.inl ⟨y, rfl, by omega, Ne.symm ((hne h1).2 h2)⟩)
        · show some x = some (newer x y)
          unfold newer
          rw [if_pos (by omega)]
end Go.Beacon

/- Merging cells: the program's way and the reference's agree. No program in sight. -/
set_option linter.unusedVariables false
set_option linter.unusedSimpArgs false
namespace Go.Beacon
open Go Go.Eng

theorem cgrow_eq {n : Int} (h0 : 0 ≤ n) (h1 : n ≤ 100000) : slices_Grow_Cell_Cell_n0x n = some [] := by
  unfold slices_Grow_Cell_Cell_n0x slices_Grow_Cell_Cell_n0x_j1
  rw [show w64 (0 - 0) = 0 by decide, show n - 0 = n by omega, w64_in (by omega) (by omega), if_neg (by omega)]
  by_cases h : 0 < n
  · rw [if_pos h, slc_in (by omega) (by omega) (by simp)]
    unfold mkS
    rw [if_pos (by omega)]
    simp only [Option.bind_some]
    rw [slc_in (by omega) (by omega) (by omega)]
    simp
  · rw [if_neg h]
theorem cconcat_eq (a b : List Cell) (ha : (a.length : Int) ≤ 1000) (hb : (b.length : Int) ≤ 1000) : slices_Concat_Cell_Cell [a, b] = some (a ++ b) := by
  have i0 : idx [a, b] 0 = some a := rfl
  have i1 : idx [a, b] 1 = some b := rfl
  have u0 : w64 (0 + 1) = 1 := by decide
  have u1 : w64 (1 + 1) = 2 := by decide
  unfold slices_Concat_Cell_Cell slices_Concat_Cell_Cell_l1
  rw [iter_eq, slices_Concat_Cell_Cell_b1, if_pos (by simp), i0]
  simp only [Option.bind_some]
  rw [show (0 : Int) + (a.length : Int) = a.length by omega, w64_in (by omega) (by omega), if_neg (by omega), u0]
  simp only [Option.bind_some, after_inl]
  rw [iter_eq, slices_Concat_Cell_Cell_b1, if_pos (by simp), i1]
  simp only [Option.bind_some]
  rw [w64_in (by omega) (by omega), if_neg (by omega), u1]
  simp only [Option.bind_some, after_inl]
  rw [iter_eq, slices_Concat_Cell_Cell_b1, if_neg (by simp), map_inr_after]
  unfold slices_Concat_Cell_Cell_k1
  simp only
  rw [cgrow_eq (by omega) (by omega)]
  simp only [Option.bind_some]
  unfold slices_Concat_Cell_Cell_l2
  rw [iter_eq, slices_Concat_Cell_Cell_b2, if_pos (by simp), i0]
  simp only [Option.bind_some]
  rw [app_le (by simp; omega), u0]
  simp only [Option.bind_some, after_inl]
  rw [iter_eq, slices_Concat_Cell_Cell_b2, if_pos (by simp), i1]
  simp only [Option.bind_some]
  rw [app_le (by simp; omega), u1]
  simp only [Option.bind_some, after_inl]
  rw [iter_eq, slices_Concat_Cell_Cell_b2, if_neg (by simp), map_inr_after]
  simp
theorem cconcat3_eq (a b c : List Cell) (ha : (a.length : Int) ≤ 1000) (hb : (b.length : Int) ≤ 1000) (hc : (c.length : Int) ≤ 1000) : slices_Concat_Cell_Cell [a, b, c] = some (a ++ b ++ c) := by
  have i0 : idx [a, b, c] 0 = some a := rfl
  have i1 : idx [a, b, c] 1 = some b := rfl
  have i2 : idx [a, b, c] 2 = some c := rfl
  have u0 : w64 (0 + 1) = 1 := by decide
  have u1 : w64 (1 + 1) = 2 := by decide
  have u2 : w64 (2 + 1) = 3 := by decide
  unfold slices_Concat_Cell_Cell slices_Concat_Cell_Cell_l1
  rw [iter_eq, slices_Concat_Cell_Cell_b1, if_pos (by simp), i0]
  simp only [Option.bind_some]
  rw [show (0 : Int) + (a.length : Int) = a.length by omega, w64_in (by omega) (by omega), if_neg (by omega), u0]
  simp only [Option.bind_some, after_inl]
  rw [iter_eq, slices_Concat_Cell_Cell_b1, if_pos (by simp), i1]
  simp only [Option.bind_some]
  rw [w64_in (by omega) (by omega), if_neg (by omega), u1]
  simp only [Option.bind_some, after_inl]
  rw [iter_eq, slices_Concat_Cell_Cell_b1, if_pos (by simp), i2]
  simp only [Option.bind_some]
  rw [w64_in (by omega) (by omega), if_neg (by omega), u2]
  simp only [Option.bind_some, after_inl]
  rw [iter_eq, slices_Concat_Cell_Cell_b1, if_neg (by simp), map_inr_after]
  unfold slices_Concat_Cell_Cell_k1
  simp only
  rw [cgrow_eq (by omega) (by omega)]
  simp only [Option.bind_some]
  unfold slices_Concat_Cell_Cell_l2
  rw [iter_eq, slices_Concat_Cell_Cell_b2, if_pos (by simp), i0]
  simp only [Option.bind_some]
  rw [app_le (by simp; omega), u0]
  simp only [Option.bind_some, after_inl]
  rw [iter_eq, slices_Concat_Cell_Cell_b2, if_pos (by simp), i1]
  simp only [Option.bind_some]
  rw [app_le (by simp; omega), u1]
  simp only [Option.bind_some, after_inl]
  rw [iter_eq, slices_Concat_Cell_Cell_b2, if_pos (by simp), i2]
  simp only [Option.bind_some]
  rw [app_le (by simp; omega), u2]
  simp only [Option.bind_some, after_inl]
  rw [iter_eq, slices_Concat_Cell_Cell_b2, if_neg (by simp), map_inr_after]
  simp
/-! the program's loop -/
theorem slc_tail {α : Type} (x : α) (a : List α) : slc (x :: a) 1 ((x :: a).length : Int) = some a := by
  rw [slc_in (by omega) (by simp; omega) (by omega)]
  congr 1
  rw [show (1 : Int).toNat = 1 from rfl, List.drop_succ_cons, List.drop_zero]
  exact List.take_of_length_le (by simp)
def jnR (out : List Cell) : Option (List Cell) → List Cell × Int
  | none => ([], 13)
  | some r => (out ++ r, 0)
theorem jnR_map (out : List Cell) (x : Cell) (o : Option (List Cell)) : jnR out (o.map (x :: ·)) = jnR (out ++ [x]) o := by
  cases o with
  | none => rfl
  | some r => simp [jnR]
theorem joined_eq : ∀ (n : Nat) (a b out : List Cell), a.length + b.length ≤ n → out.length + a.length + b.length ≤ 1000 → twin_joined_l1 a b out = some (jnR out (jn a b))
  | n, [], b, out, hn, hl => by
    simp only [List.length_nil] at hl
    unfold twin_joined_l1
    rw [iter_eq]
    show (twin_joined_b1 [] b out).bind _ = _
    unfold twin_joined_b1 twin_joined_j1
    rw [if_neg (by simp), map_inr_after]
    unfold twin_joined_k5
    rw [cconcat3_eq _ _ _ (by omega) (by simp) (by omega), jn]
    simp [jnR]
  | n, x :: a, [], out, hn, hl => by
    unfold twin_joined_l1
    rw [iter_eq]
    show (twin_joined_b1 (x :: a) [] out).bind _ = _
    unfold twin_joined_b1 twin_joined_j1
    rw [if_neg (by simp), map_inr_after]
    unfold twin_joined_k5
    rw [cconcat3_eq _ _ _ (by omega) (by omega) (by simp), jn]
    simp [jnR]
  | 0, x :: a, y :: b, out, hn, hl => by simp at hn
  | n + 1, x :: a, y :: b, out, hn, hl => by
    have hn' : a.length + b.length + 1 ≤ n := by simp only [List.length_cons] at hn; omega
    have hl' : out.length + a.length + b.length + 2 ≤ 1000 := by simp only [List.length_cons] at hl; omega
    have ix : idx (x :: a) 0 = some x := rfl
    have iy : idx (y :: b) 0 = some y := rfl
    have hax : app out [x] = some (out ++ [x]) := app_le (by simp; omega)
    have hay : app out [y] = some (out ++ [y]) := app_le (by simp; omega)
    have goX : iter (fun z : List Cell × List Cell × List Cell => twin_joined_b1 z.1 z.2.1 z.2.2) (a, y :: b, out ++ [x]) = some (jnR (out ++ [x]) (jn a (y :: b))) := joined_eq n a (y :: b) (out ++ [x]) (by simp only [List.length_cons]; omega) (by simp only [List.length_cons, List.length_append, List.length_nil]; omega)
    have goY : iter (fun z : List Cell × List Cell × List Cell => twin_joined_b1 z.1 z.2.1 z.2.2) (x :: a, b, out ++ [y]) = some (jnR (out ++ [y]) (jn (x :: a) b)) := joined_eq n (x :: a) b (out ++ [y]) (by simp only [List.length_cons]; omega) (by simp only [List.length_cons, List.length_append, List.length_nil]; omega)
    have goB : ∀ z, iter (fun z : List Cell × List Cell × List Cell => twin_joined_b1 z.1 z.2.1 z.2.2) (a, b, out ++ [z]) = some (jnR (out ++ [z]) (jn a b)) := fun z => joined_eq n a b (out ++ [z]) (by omega) (by simp only [List.length_append, List.length_cons, List.length_nil]; omega)
    have hb : twin_joined_b1 (x :: a) (y :: b) out = if Lib.compareBytes x.Prop_.Name y.Prop_.Name < 0 then some (.inl (a, y :: b, out ++ [x])) else if 0 < Lib.compareBytes x.Prop_.Name y.Prop_.Name then some (.inl (x :: a, b, out ++ [y])) else if stO x.Stamp y.Stamp = 0 ∧ x.Prop_.Value ≠ y.Prop_.Value then some (.inr ([], 13)) else some (.inl (a, b, out ++ [newer x y])) := by
      unfold twin_joined_b1 twin_joined_j1
      rw [if_pos (by simp)]
      simp only [ix, iy, Option.bind_some]
      by_cases h1 : Lib.compareBytes x.Prop_.Name y.Prop_.Name < 0
      · rw [if_pos h1, if_pos h1, hax]
        simp only [Option.bind_some]
        rw [slc_tail]
        rfl
      · rw [if_neg h1, if_neg h1]
        by_cases h2 : 0 < Lib.compareBytes x.Prop_.Name y.Prop_.Name
        · rw [if_pos h2, if_pos h2, hay]
          simp only [Option.bind_some]
          rw [slc_tail]
          rfl
        · rw [if_neg h2, if_neg h2, byStamp_eq]
          simp only [Option.bind_some]
          have j3 : ∀ c : Bool, (c = true ↔ (stO x.Stamp y.Stamp = 0 ∧ x.Prop_.Value ≠ y.Prop_.Value)) → twin_joined_j3 (x :: a) (y :: b) out (stO x.Stamp y.Stamp) c = if stO x.Stamp y.Stamp = 0 ∧ x.Prop_.Value ≠ y.Prop_.Value then some (.inr ([], 13)) else some (.inl (a, b, out ++ [newer x y])) := by
            intro c hc
            unfold twin_joined_j3
            by_cases hcc : c = true
            · rw [if_pos hcc, if_pos (hc.1 hcc)]; rfl
            · rw [if_neg hcc, if_neg (fun h => hcc (hc.2 h))]
              unfold newer
              by_cases h3 : 0 ≤ stO x.Stamp y.Stamp
              · rw [if_pos h3, if_pos h3, ix]
                simp only [Option.bind_some]
                rw [hax]
                simp only [Option.bind_some, twin_joined_j4]
                rw [slc_tail, slc_tail]
                rfl
              · rw [if_neg h3, if_neg h3, iy]
                simp only [Option.bind_some]
                rw [hay]
                simp only [Option.bind_some, twin_joined_j4]
                rw [slc_tail, slc_tail]
                rfl
          by_cases h3 : stO x.Stamp y.Stamp = 0
          · rw [if_pos h3]
            exact j3 _ (by simp [h3])
          · rw [if_neg h3]
            exact j3 _ (by simp [h3])
    unfold twin_joined_l1
    rw [iter_eq, jn]
    show (twin_joined_b1 (x :: a) (y :: b) out).bind _ = _
    rw [hb]
    unfold cN
    by_cases h1 : Lib.compareBytes x.Prop_.Name y.Prop_.Name < 0
    · rw [if_pos h1, if_pos h1, jnR_map]
      exact goX
    · rw [if_neg h1, if_neg h1]
      by_cases h2 : 0 < Lib.compareBytes x.Prop_.Name y.Prop_.Name
      · rw [if_pos h2, if_pos h2, jnR_map]
        exact goY
      · rw [if_neg h2, if_neg h2]
        by_cases h3 : stO x.Stamp y.Stamp = 0 ∧ x.Prop_.Value ≠ y.Prop_.Value
        · rw [if_pos h3, if_pos h3]; rfl
        · rw [if_neg h3, if_neg h3, jnR_map]
          exact goB (newer x y)
/-- What a merge gives. -/
def mgR : Option (List Cell) → List Cell × Int
  | none => ([], 13)
  | some r => if 500 < r.length then ([], 2) else (r, 0)
theorem merged_eq (a b : List Cell) (h : a.length + b.length ≤ 1000) : twin_merged a b = some (mgR (jn a b)) := by
  unfold twin_merged twin_joined
  rw [joined_eq (a.length + b.length) a b [] (Nat.le_refl _) (by simp; omega)]
  simp only [Option.bind_some]
  unfold twin_merged_j1 twin_merged_j2
  cases jn a b with
  | none => simp [jnR, mgR]
  | some r =>
    by_cases h5 : 500 < r.length
    · have e5 : (500 : Int) < (r.length : Int) := by omega
      simp [jnR, mgR, e5, h5]
    · have e5 : ¬ (500 : Int) < (r.length : Int) := by omega
      simp [jnR, mgR, e5, h5]
/-! the reference's loops -/
theorem sortSC (f : Cell → Cell → Option Int) (hf : ∀ a b, f a b = some (Lib.compareBytes (cN a) (cN b))) (l : List Cell) (hl : l.length ≤ 100000) (hd : l.Pairwise (fun a b => cN a ≠ cN b)) : ∃ Z, sortO f l = some Z ∧ Z.Perm l ∧ SId cN Z := by
  obtain ⟨Z, h1, h2, h3⟩ := sortO_eq f (fun a b => Lib.compareBytes (cN a) (cN b)) l hl (fun a _ b _ => hf a b) ((cmpB_3.on cN).ord l)
  refine ⟨Z, h1, h2, ?_⟩
  have hZ : Z.Pairwise (fun a b => cN a ≠ cN b) := (h2.pairwise_iff (fun {a b} h => h.symm)).2 hd
  refine (h3.and hZ).imp (fun {a b} h => ?_)
  have h1 : ¬ Lib.compareBytes (cN b) (cN a) < 0 := h.1
  have hn := cmpB_neg (cN a) (cN b)
  have hz : Lib.compareBytes (cN a) (cN b) ≠ 0 := fun z => h.2 (cmpB_zero z)
  omega
/-- A map of cells by their names. -/
def CM (m : List (Str × Cell)) : Prop := (∀ e ∈ m, cN e.2 = e.1) ∧ m.Pairwise (fun a b => a.1 ≠ b.1)
theorem cm_names {p : List (Str × Cell)} (h : CM p) : (p.map Prod.snd).Pairwise (fun a b => cN a ≠ cN b) := by
  rw [List.pairwise_map]
  exact List.Pairwise.imp_of_mem (fun {a b} ha hb hne => by rw [h.1 a ha, h.1 b hb]; exact hne) h.2
theorem cm_perm {p m : List (Str × Cell)} (hp : p.Perm m) (h : CM m) : CM p := ⟨fun e he => h.1 e (hp.mem_iff.1 he), (hp.pairwise_iff (fun {a b} h => h.symm)).2 h.2⟩
theorem cm_gt {p : List (Str × Cell)} (h : CM p) (k : Str) : gt cN (p.map Prod.snd) k = mget? p k := by
  induction p with
  | nil => rfl
  | cons e p ih =>
    have h2 : CM p := ⟨fun x hx => h.1 x (List.mem_cons_of_mem _ hx), (List.pairwise_cons.1 h.2).2⟩
    rw [List.map_cons, gt_cons, ih h2, h.1 e (by simp)]
    obtain ⟨a, b⟩ := e
    simp only [mget?]
theorem MergeOf_l2 (m : List (Str × Cell)) (hm : CM m) (hl : m.length ≤ 1000) (r : List Cell) (hr : SId cN r) (hg : ∀ k, gt cN r k = mget? m k) : Q_MergeOf_l2 m [] = some (mgR (some r)) := by
  unfold Q_MergeOf_l2
  refine overP_inv _ _ m [] _ (fun done X => X = done.map Prod.snd) rfl (fun done e rest X hp hi => .inl ?_) (fun p X hp hi => ?_)
  · have hlen : done.length + 1 ≤ m.length := by have := hp.length_eq; simp only [List.length_append, List.length_cons] at this; omega
    refine ⟨(done ++ [e]).map Prod.snd, ?_, rfl⟩
    unfold Q_MergeOf_b2
    rw [hi, app_le (by simp; omega), List.map_append]; rfl
  · subst hi
    have hcm := cm_perm hp hm
    have hpl : p.length ≤ 1000 := by rw [hp.length_eq]; exact hl
    obtain ⟨Z, z1, z2, z3⟩ := sortSC (fun y0 y1 => some (Q_MergeOf_2x y0 y1)) (fun a b => rfl) (p.map Prod.snd) (by simp; omega) (cm_names hcm)
    have hZ : Z = r := gt_ext cN z3 hr (fun k => by
      rw [gt_perm cN z2 (SId.ne cN z3) k, cm_gt hcm k, hg k, ← cm_gt hm k, ← cm_gt hcm k]
      exact gt_perm cN (hp.map Prod.snd) (cm_names hcm) k)
    subst hZ
    unfold Q_MergeOf_f2 slices_SortFunc_Cell_Cell lenOk
    rw [z1]
    simp only [Option.bind_some]
    rw [if_pos (by first | exact z2.length_eq | omega)]
    simp only [Option.bind_some, mgR]
    by_cases h5 : 500 < Z.length
    · rw [if_pos (by omega), if_pos h5]
    · rw [if_neg (by omega), if_neg h5]
theorem cm_mset {m : List (Str × Cell)} (hs : SM m) (h : ∀ e ∈ m, cN e.2 = e.1) (c : Cell) : ∀ e ∈ mset m (cN c) c, cN e.2 = e.1 := by
  intro e he
  have hg := (SM.get_iff (hs.set (cN c) c) (k := e.1) (v := e.2)).2 he
  rw [mget_mset] at hg
  by_cases hk : cN c = e.1
  · rw [if_pos hk] at hg
    have := Option.some.inj hg
    rw [← this]; exact hk
  · rw [if_neg hk] at hg
    exact h _ ((SM.get_iff hs).1 hg)
theorem lp_cm : ∀ (S : List Cell) (m m' : List (Str × Cell)), SM m → (∀ e ∈ m, cN e.2 = e.1) → lp m S = some m' → SM m' ∧ (∀ e ∈ m', cN e.2 = e.1) ∧ m'.length ≤ m.length + S.length
  | [], m, m', h1, h2, h => by
    obtain rfl := Option.some.inj h
    exact ⟨h1, h2, by simp⟩
  | c :: T, m, m', h1, h2, h => by
    rw [lp] at h
    split at h
    · cases h
    · obtain ⟨a1, a2, a3⟩ := lp_cm T _ m' (h1.set (cN c) c) (cm_mset h1 h2 c) h
      have := mset_len m (cN c) c
      exact ⟨a1, a2, by simp only [List.length_cons]; omega⟩
theorem MergeOf_l1 (S : List Cell) (hS : CL S) : Q_MergeOf_l1 S [] 0 = match lp [] S with
    | none => some ([], 13)
    | some m' => Q_MergeOf_l2 m' [] := by
  have hl := hS.1
  unfold Q_MergeOf_l1
  refine iter_to _ (fun x : List (Str × Cell) × Int => (S.length - x.2).toNat) (fun x : List (Str × Cell) × Int => 0 ≤ x.2 ∧ x.2 ≤ S.length ∧ lp [] S = lp x.1 (S.drop x.2.toNat) ∧ ∀ k v, mget? x.1 k = some v → v ∈ S) _ ?_ _ ⟨by simp, by simp, by simp, fun k v h => by cases h⟩
  rintro ⟨X, n⟩ ⟨g0, g1, g2, g3⟩
  simp only at g0 g1 g2 g3 ⊢
  unfold Q_MergeOf_b1
  by_cases hn : n < S.length
  · obtain ⟨v, hvv, hm, _⟩ := idx_lt S g0 hn
    obtain ⟨hn', hg'⟩ := List.getElem?_eq_some_iff.1 (idx_some hvv).2.2
    have e : (n + 1).toNat = n.toNat + 1 := by omega
    have hd : S.drop n.toNat = v :: S.drop (n + 1).toNat := by rw [e, List.drop_eq_getElem_cons hn', hg']
    rw [if_pos hn, hvv]
    simp only [Option.bind_some, mget2]
    rw [hd, lp] at g2
    have hc : ∀ c : Bool, c = bad1 X v → (∃ s', Q_MergeOf_j1 X n v c = some (.inl s') ∧ (0 ≤ s'.2 ∧ s'.2 ≤ S.length ∧ lp [] S = lp s'.1 (S.drop s'.2.toNat) ∧ ∀ k u, mget? s'.1 k = some u → u ∈ S) ∧ (S.length - s'.2).toNat < (S.length - n).toNat) ∨ Q_MergeOf_j1 X n v c = Option.map .inr (match lp [] S with
        | none => some (([] : List Cell), (13 : Int))
        | some m' => Q_MergeOf_l2 m' []) := by
      intro c hcc
      unfold Q_MergeOf_j1
      by_cases hb : c = true
      · right
        rw [if_pos (by rw [← hcc]; exact hb)] at g2
        rw [if_pos hb, g2]
      · left
        rw [if_neg (by rw [← hcc]; exact hb)] at g2
        rw [if_neg hb, w64_in (by omega) (by omega)]
        refine ⟨_, rfl, ⟨by simp only; omega, by simp only; omega, g2, fun k u hu => ?_⟩, by simp only; omega⟩
        simp only at hu
        have hu' : mget? (mset X (cN v) v) k = some u := hu
        rw [mget_mset] at hu'
        split at hu'
        · obtain rfl := Option.some.inj hu'; exact hm
        · exact g3 k u hu'
    refine hc _ ?_
    unfold bad1 cN
    cases hx : mget? X v.Prop_.Name with
    | none => simp
    | some o =>
      have ho : Q_StampOrder o.Stamp v.Stamp = stO o.Stamp v.Stamp := hS.order (g3 _ _ hx) hm
      simp [ho]
  · right
    have hz : S.drop n.toNat = [] := List.drop_eq_nil_of_le (by omega)
    rw [hz, lp] at g2
    rw [if_neg hn, g2]
theorem CL.app {a b : List Cell} (ha : CL a) (hb : CL b) (h : a.length + b.length ≤ 1000) : CL (a ++ b) := ⟨by simp; omega, fun c hc => by
  rcases List.mem_append.1 hc with e | e
  · exact ha.2 c e
  · exact hb.2 c e⟩
theorem CL.perm {a b : List Cell} (ha : CL a) (h : b.Perm a) : CL b := ⟨by rw [h.length_eq]; exact ha.1, fun c hc => ha.2 c (h.mem_iff.1 hc)⟩
theorem MergeOf_eq (a b : List Cell) (ha : CL a) (hb : CL b) (hl : a.length + b.length < 20) (sa : SId cN a) (sb : SId cN b) : Q_MergeOf a b = some (mgR (jn a b)) := by
  have hab : CL (a ++ b) := ha.app hb (by omega)
  unfold Q_MergeOf
  rw [cconcat_eq a b (by omega) (by omega)]
  simp only [Option.bind_some]
  obtain ⟨S, s1, s2, s3⟩ := cstable_gen (fun x y : Cell => stO x.Stamp y.Stamp) (stO_3.on Cell.Stamp) (fun y0 y1 => some (Q_MergeOf_1x y0 y1)) (a ++ b) (by simp only [List.length_append]; omega) (fun x hx y hy => by unfold Q_MergeOf_1x; rw [hab.order hx hy])
  rw [s1]
  simp only [Option.bind_some]
  rw [MergeOf_l1 S (hab.perm s2)]
  have hat := fun k => at_name sa sb s2 s3 k
  have hsl : S.length < 20 := by rw [s2.length_eq]; simp only [List.length_append]; omega
  rcases lp_spec S [] with ⟨l1, k, l2⟩ | ⟨m', l1, l2, l3⟩
  · rw [l1]
    have hcl := (hat k).1.1 l2
    rcases jn_spec _ a b (Nat.le_refl _) sa sb with ⟨j1, _⟩ | ⟨r, _, j2, _⟩
    · rw [j1]; rfl
    · exact absurd hcl (j2 k)
  · rw [l1]
    rcases jn_spec _ a b (Nat.le_refl _) sa sb with ⟨_, k, j2⟩ | ⟨r, j1, j2, j3, j4, j5⟩
    · exact absurd ((hat k).1.2 j2) (l2 k)
    · rw [j1]
      obtain ⟨c1, c2, c3⟩ := lp_cm S [] m' SM.nil (fun e he => by cases he) l1
      exact MergeOf_l2 m' ⟨c2, c1.ne⟩ (by simp only [List.length_nil] at c3; omega) r j3 (fun k => by
        rw [l3 k, j4 k]
        exact ((hat k).2 (l2 k)).symm)
end Go.Beacon

/- The names of several lists, sorted, each once; what a list of properties tells of a name. No program in sight. -/
set_option linter.unusedVariables false
set_option linter.unusedSimpArgs false
namespace Go.Beacon
open Go Go.Eng

theorem lt_cmp : ∀ a b : List UInt8, a < b ↔ Lib.compareBytes a b < 0
  | [], [] => by simp [Lib.compareBytes]
  | [], _ :: _ => by simp [Lib.compareBytes]
  | _ :: _, [] => by simp [Lib.compareBytes]
  | x :: a, y :: b => by
    have ih := lt_cmp a b
    rw [List.cons_lt_cons_iff]
    unfold Lib.compareBytes
    by_cases h : x < y
    · simp [h]
    · by_cases h2 : y < x
      · have hne : ¬ x = y := fun e => by subst e; exact h h2
        simp [h, h2, hne]
      · have hx : x = y := by
          rw [UInt8.lt_iff_toNat_lt] at h h2
          exact UInt8.toNat_inj.1 (by omega)
        subst hx
        simp [ih]
theorem le_cmp (a b : List UInt8) : a ≤ b ↔ ¬ Lib.compareBytes b a < 0 := by
  rw [← lt_cmp]; exact Iff.rfl
/-- Strings that rise. -/
def SS (l : List Str) : Prop := l.Pairwise (fun a b => Lib.compareBytes a b < 0)
theorem srtS_perm (l : List Str) : (srtS l).Perm l := List.mergeSort_perm l _
theorem srtS_srt (l : List Str) : (srtS l).Pairwise (fun a b => ¬ Lib.compareBytes b a < 0) := by
  have h := List.pairwise_mergeSort (le := fun x y : Str => decide (x ≤ y)) (fun a b c h1 h2 => by
    rw [decide_eq_true_eq, le_cmp] at *
    intro h3
    have n1 := cmpB_neg a c; have n2 := cmpB_neg a b; have n3 := cmpB_neg b c
    rcases Int.lt_trichotomy (Lib.compareBytes a b) 0 with e | e | e
    · rcases Int.lt_trichotomy (Lib.compareBytes b c) 0 with f | f | f
      · have := cmpB_tr e f; omega
      · have := cmpB_zero f; subst this; omega
      · omega
    · have := cmpB_zero e; subst this; omega
    · omega) (fun a b => by
    rw [Bool.or_eq_true, decide_eq_true_eq, decide_eq_true_eq, le_cmp, le_cmp]
    have := cmpB_neg a b
    omega) l
  exact h.imp (fun {a b} hab => by rw [decide_eq_true_eq, le_cmp] at hab; exact hab)
theorem ddA_SS : ∀ (r : List Str) (p : Str), (p :: r).Pairwise (fun a b => ¬ Lib.compareBytes b a < 0) → SS (p :: ddA eqB p r) ∧ ∀ x, x ∈ p :: ddA eqB p r ↔ x ∈ p :: r
  | [], p => fun _ => ⟨List.pairwise_singleton _ _, fun x => Iff.rfl⟩
  | y :: r, p => fun h => by
    have h1 := List.pairwise_cons.1 h
    have ih := ddA_SS r y h1.2
    unfold ddA
    by_cases e : eqB y p = true
    · have e' : y = p := of_decide_eq_true e
      subst e'
      rw [if_pos e]
      refine ⟨ih.1, fun x => ?_⟩
      rw [ih.2 x]; simp
    · have e' : y ≠ p := fun z => e (decide_eq_true z)
      rw [if_neg e]
      have hpy : Lib.compareBytes p y < 0 := by
        have := h1.1 y (by simp)
        have hn := cmpB_neg p y
        have hz : Lib.compareBytes p y ≠ 0 := fun z => e' (cmpB_zero z).symm
        omega
      refine ⟨List.pairwise_cons.2 ⟨fun z hz => ?_, ih.1⟩, fun x => ?_⟩
      · rcases List.mem_cons.1 hz with f | f
        · subst f; exact hpy
        · exact cmpB_tr hpy ((List.pairwise_cons.1 ih.1).1 z f)
      · rw [List.mem_cons, ih.2 x]; simp
theorem dd_SS (l : List Str) (h : l.Pairwise (fun a b => ¬ Lib.compareBytes b a < 0)) : SS (dd eqB l) ∧ ∀ x, x ∈ dd eqB l ↔ x ∈ l := by
  cases l with
  | nil => exact ⟨List.Pairwise.nil, fun x => Iff.rfl⟩
  | cons p r => exact ddA_SS r p h
def flatN (ls : List (List PropS)) : List Str := ls.flatMap fun l => l.map PropS.Name
def nmsL (ls : List (List PropS)) : List Str := dd eqB (srtS (flatN ls))
theorem nms_SS (ls : List (List PropS)) : SS (nmsL ls) := (dd_SS _ (srtS_srt _)).1
theorem nms_mem (ls : List (List PropS)) (n : Str) : n ∈ nmsL ls ↔ ∃ l ∈ ls, ∃ p ∈ l, p.Name = n := by
  unfold nmsL
  rw [(dd_SS _ (srtS_srt _)).2, (srtS_perm _).mem_iff]
  unfold flatN
  simp [List.mem_flatMap]
theorem nms_len (ls : List (List PropS)) : (nmsL ls).length ≤ (flatN ls).length := by
  unfold nmsL
  refine Nat.le_trans (dd_len _ _) ?_
  rw [(srtS_perm _).length_eq]; exact Nat.le_refl _
theorem names_inner (n6 : Int) (v8 : List PropS) (l5 : List Str) (h6 : 0 ≤ n6 ∧ n6 ≤ 10) (hl : l5.length + v8.length ≤ 100000) : twin_names_l2 n6 v8 l5 0 = some (.inl (l5 ++ v8.map PropS.Name, n6 + 1)) := by
  unfold twin_names_l2
  refine iter_to _ (fun x : List Str × Int => (v8.length - x.2).toNat) (fun x : List Str × Int => 0 ≤ x.2 ∧ x.2 ≤ v8.length ∧ x.1 = l5 ++ (v8.take x.2.toNat).map PropS.Name) _ ?_ _ ⟨by simp, by simp, by simp⟩
  rintro ⟨X, n⟩ ⟨h0, h1, h2⟩
  simp only at h0 h1 h2 ⊢
  unfold twin_names_b2
  by_cases hn : n < v8.length
  · left
    obtain ⟨v, hv, _, _⟩ := idx_lt v8 h0 hn
    obtain ⟨hn', hg⟩ := List.getElem?_eq_some_iff.1 (idx_some hv).2.2
    have e : (n + 1).toNat = n.toNat + 1 := by omega
    have hX : X.length ≤ l5.length + n.toNat := by rw [h2]; simp; omega
    rw [if_pos hn, hv]
    simp only [Option.bind_some]
    rw [app_le (by simp; omega)]
    simp only [Option.bind_some]
    rw [w64_in (by omega) (by omega)]
    refine ⟨_, rfl, ⟨by simp only; omega, by simp only; omega, ?_⟩, by simp only; omega⟩
    simp only
    rw [e, List.take_succ_eq_append_getElem hn', h2, hg]; simp
  · right
    rw [if_neg hn, h2, List.take_of_length_le (by omega), w64_in (by omega) (by omega)]
theorem flatN_take {ls : List (List PropS)} {n : Nat} (h : n < ls.length) : flatN (ls.take (n + 1)) = flatN (ls.take n) ++ ls[n].map PropS.Name := by
  rw [List.take_succ_eq_append_getElem h]; unfold flatN
  rw [List.flatMap_append, List.flatMap_cons, List.flatMap_nil, List.append_nil]
theorem flatN_le (ls : List (List PropS)) (n : Nat) : (flatN (ls.take n)).length ≤ (flatN ls).length := by
  have h : flatN ls = flatN (ls.take n) ++ flatN (ls.drop n) := by
    conv => lhs; rw [← List.take_append_drop n ls]
    unfold flatN; simp only [List.flatMap_append]
  rw [h]; simp
theorem names_eq (ls : List (List PropS)) (h1 : ls.length ≤ 10) (h2 : (flatN ls).length ≤ 100000) : twin_names ls = some (nmsL ls) := by
  unfold twin_names twin_names_l1
  refine iter_to _ (fun x : List Str × Int => (ls.length - x.2).toNat) (fun x : List Str × Int => 0 ≤ x.2 ∧ x.2 ≤ ls.length ∧ x.1 = flatN (ls.take x.2.toNat)) _ ?_ _ ⟨by simp, by simp, by simp [flatN]⟩
  rintro ⟨X, n⟩ ⟨g0, g1, g2⟩
  simp only at g0 g1 g2 ⊢
  unfold twin_names_b1
  by_cases hn : n < ls.length
  · left
    obtain ⟨v, hv, _, _⟩ := idx_lt ls g0 hn
    obtain ⟨hn', hg⟩ := List.getElem?_eq_some_iff.1 (idx_some hv).2.2
    have e : (n + 1).toNat = n.toNat + 1 := by omega
    have ht := flatN_take hn'
    have hlen := flatN_le ls (n.toNat + 1)
    rw [ht, ← g2, hg] at hlen
    simp only [List.length_append, List.length_map] at hlen
    rw [if_pos hn, hv]
    simp only [Option.bind_some]
    rw [names_inner n v X (by omega) (by omega)]
    refine ⟨_, rfl, ⟨by simp only; omega, by simp only; omega, ?_⟩, by simp only; omega⟩
    simp only
    rw [e, ht, g2, hg]
  · right
    rw [if_neg hn, g2, List.take_of_length_le (by omega)]
    unfold twin_names_k1 slices_Sort_string_string sort1 lenOk
    rw [if_pos (by omega)]
    simp only [Option.bind_some]
    have hls : (srtS (flatN ls)).length = (flatN ls).length := (srtS_perm _).length_eq
    rw [if_pos (by first | exact hls | exact hls.symm | omega)]
    simp only [Option.bind_some]
    rw [show slices_Compact_string_string (srtS (flatN ls)) = some (dd eqB (srtS (flatN ls))) from gCpt_eq [] _ (by omega)]
    rfl
theorem namesOf_eq (ls : List (List PropS)) (h1 : ls.length ≤ 10) (h2 : (flatN ls).length ≤ 100000) : Q_namesOf ls = some (nmsL ls) := by
  rw [← names_eq ls h1 h2]; rfl
/-- The value of a name. -/
def valL (l : List PropS) (s : Str) : ValueS := findE (fun p : PropS => if p.Name = s then some p.Value else none) (⟨0, false, 0, []⟩ : ValueS) l
theorem QValueOf_eq (l : List PropS) (hl : l.length ≤ 1000) (s : Str) : Q_ValueOf l s = some (valL l s) := by
  unfold Q_ValueOf Q_ValueOf_l1 valL
  rw [iter_find l (fun x : Int => Q_ValueOf_b1 l s x) (fun p : PropS => if p.Name = s then some p.Value else none) (⟨0, false, 0, []⟩ : ValueS) (by omega)]
  · intro i x h0 h1 hx
    rw [Q_ValueOf_b1, if_pos h1, hx]
    simp only [Option.bind_some]
    by_cases c : x.Name = s
    · rw [if_pos c, if_pos c]; rfl
    · rw [if_neg c, if_neg c, w64_in (by omega) (by omega)]
  · rw [Q_ValueOf_b1, if_neg (by omega)]; rfl
theorem TvalueOf_eq (l : List PropS) (hl : l.length ≤ 1000) (hu : SN l) (s : Str) : twin_valueOf l s = some (valL l s) := by
  obtain ⟨r, h1, h2⟩ := valueOf_eq l hl hu s
  rw [QValueOf_eq l hl s] at h2
  rw [h1, ← h2]
theorem valL_cons (p : PropS) (l : List PropS) (s : Str) : valL (p :: l) s = if p.Name = s then p.Value else valL l s := by
  unfold valL
  rw [findE]
  by_cases c : p.Name = s
  · rw [if_pos c, if_pos c]
  · rw [if_neg c, if_neg c]
theorem valL_gt (l : List PropS) (s : Str) : valL l s = ((gt PropS.Name l s).map PropS.Value).getD ⟨0, false, 0, []⟩ := by
  induction l with
  | nil => rfl
  | cons p l ih =>
    rw [valL_cons, gt_cons, ih]
    split <;> rfl
theorem valL_words (l : List PropS) (s : Str) (N : Nat) (h : ∀ p ∈ l, p.Value.Words.length ≤ N) : (valL l s).Words.length ≤ N := by
  induction l with
  | nil => exact Nat.zero_le _
  | cons p l ih =>
    rw [valL_cons]
    split
    · exact h p (by simp)
    · exact ih (fun q hq => h q (by simp [hq]))
end Go.Beacon

/- Properties by maps: what writing changes into a map gives. No program in sight. -/
set_option linter.unusedVariables false
set_option linter.unusedSimpArgs false
namespace Go.Beacon
open Go Go.Eng

section
variable {α : Type} (key : α → Str) (val : α → ValueS)
/-- Writing a list into a map. -/
def setG (m : List (Str × ValueS)) (xs : List α) : List (Str × ValueS) := xs.foldl (fun m x => mset m (key x) (val x)) m
theorem setG_cons (m : List (Str × ValueS)) (x : α) (xs : List α) : setG key val m (x :: xs) = setG key val (mset m (key x) (val x)) xs := rfl
theorem setG_snoc (m : List (Str × ValueS)) (xs : List α) (x : α) : setG key val m (xs ++ [x]) = mset (setG key val m xs) (key x) (val x) := by
  unfold setG; rw [List.foldl_append]; rfl
theorem setG_SM : ∀ (xs : List α) {m : List (Str × ValueS)}, SM m → SM (setG key val m xs)
  | [], m, h => h
  | x :: xs, m, h => setG_SM xs (h.set _ _)
theorem setG_get : ∀ (xs : List α) (m : List (Str × ValueS)) (k : Str), xs.Pairwise (fun a b => key a ≠ key b) → mget? (setG key val m xs) k = ((gt key xs k).map val).or (mget? m k)
  | [], m, k, _ => rfl
  | x :: xs, m, k, h => by
    have h1 := List.pairwise_cons.1 h
    rw [setG_cons, setG_get xs _ k h1.2, gt_cons, mget_mset]
    by_cases e : key x = k
    · rw [if_pos e, if_pos e]
      have : gt key xs k = none := (gt_none key).2 (fun y hy => by rw [← e]; exact (h1.1 y hy).symm)
      rw [this]; rfl
    · rw [if_neg e, if_neg e]
end
end Go.Beacon

/- The changes between two lists of properties; changes turned. No program in sight. -/
set_option linter.unusedVariables false
set_option linter.unusedSimpArgs false
namespace Go.Beacon
open Go Go.Eng

theorem flat_len {α β : Type} (g : α → List β) (hg : ∀ x, (g x).length ≤ 1) : ∀ xs : List α, (xs.flatMap g).length ≤ xs.length
  | [] => by simp
  | x :: xs => by
    have h1 := flat_len g hg xs
    have h2 := hg x
    rw [List.flatMap_cons, List.length_append, List.length_cons]; omega
/-- A loop that appends something for each element. -/
theorem iter_fl {α β A : Type} (xs : List α) (g : α → List β) (hg : ∀ x, (g x).length ≤ 1) (f : List β × Int → Option ((List β × Int) ⊕ A)) (r : Option A) (X0 : List β)
    (h1 : ∀ (X : List β) (i : Int) x, 0 ≤ i → i < xs.length → idx xs i = some x → x ∈ xs → X.length ≤ X0.length + xs.length → f (X, i) = some (.inl (X ++ g x, i + 1)))
    (h2 : ∀ i : Int, i = xs.length → f (X0 ++ xs.flatMap g, i) = r.map .inr) : iter f (X0, 0) = r := by
  refine iter_to _ (fun x : List β × Int => (xs.length - x.2).toNat) (fun x : List β × Int => 0 ≤ x.2 ∧ x.2 ≤ xs.length ∧ x.1 = X0 ++ (xs.take x.2.toNat).flatMap g) _ ?_ _ ⟨by simp, by simp, by simp⟩
  rintro ⟨X, n⟩ ⟨g0, g1, g2⟩
  simp only at g0 g1 g2 ⊢
  by_cases hn : n < xs.length
  · left
    obtain ⟨v, hv, hm, _⟩ := idx_lt xs g0 hn
    obtain ⟨hn', hg'⟩ := List.getElem?_eq_some_iff.1 (idx_some hv).2.2
    have e : (n + 1).toNat = n.toNat + 1 := by omega
    have hX : X.length ≤ X0.length + xs.length := by
      rw [g2, List.length_append]
      have := flat_len g hg (xs.take n.toNat)
      simp only [List.length_take] at this
      omega
    refine ⟨_, h1 X n v g0 hn hv hm hX, ⟨by simp only; omega, by simp only; omega, ?_⟩, by simp only; omega⟩
    simp only
    rw [e, List.take_succ_eq_append_getElem hn', g2, hg']; simp
  · right
    have hn' : n = xs.length := by omega
    rw [g2, List.take_of_length_le (by omega)]
    exact h2 n hn'
/-- The change at a name. -/
def difG (a b : List PropS) (n : Str) : List Change := if valL a n ≠ valL b n then [⟨n, valL a n, valL b n⟩] else []
theorem difG_len (a b : List PropS) (n : Str) : (difG a b n).length ≤ 1 := by unfold difG; split <;> simp
def difL (a b : List PropS) (N : List Str) : List Change := N.flatMap (difG a b)
theorem DifferOf_loop (a b : List PropS) (ha : a.length ≤ 1000) (hb : b.length ≤ 1000) (N : List Str) (hN : N.length ≤ 100000) : Q_DifferOf_l1 a b N [] 0 = some (difL a b N) := by
  unfold Q_DifferOf_l1
  refine iter_fl N (difG a b) (difG_len a b) _ _ [] (fun X i x h0 h1 hx hm hX => ?_) (fun i hi => ?_)
  · simp only [List.length_nil] at hX
    simp only
    rw [Q_DifferOf_b1, if_pos h1, hx]
    simp only [Option.bind_some]
    rw [QValueOf_eq a ha x, QValueOf_eq b hb x]
    simp only [Option.bind_some]
    unfold Q_DifferOf_j1 difG
    rw [w64_in (by omega) (by omega)]
    by_cases c : valL a x ≠ valL b x
    · rw [if_pos c, if_pos c, app_le (by simp; omega)]; rfl
    · rw [if_neg c, if_neg c, List.append_nil]
  · simp only
    rw [Q_DifferOf_b1, if_neg (by omega)]; rfl
theorem flatN2 (a b : List PropS) : (flatN [a, b]).length = a.length + b.length := by unfold flatN; simp
theorem DifferOf_eq (a b : List PropS) (ha : a.length ≤ 1000) (hb : b.length ≤ 1000) : Q_DifferOf a b = some (difL a b (nmsL [a, b])) := by
  have hf := flatN2 a b
  have hn := nms_len [a, b]
  unfold Q_DifferOf
  rw [namesOf_eq [a, b] (by simp) (by omega)]
  exact DifferOf_loop a b ha hb _ (by omega)
end Go.Beacon

/- Checking changes: the program and the reference tell the same. No program in sight. -/
set_option linter.unusedVariables false
set_option linter.unusedSimpArgs false
namespace Go.Beacon
open Go Go.Eng

theorem sid_step {α : Type} (id : α → Str) {l : List α} {n : Int} {v : α} (h0 : 0 ≤ n) (hv : idx l n = some v) (hs : SId id (l.take n.toNat)) (hp : ∀ x, 0 < n → idx l (n - 1) = some x → Lib.compareBytes (id x) (id v) < 0) : SId id (l.take (n + 1).toNat) := by
  have g1 := (idx_some hv).2.2
  have e : (n + 1).toNat = n.toNat + 1 := by omega
  obtain ⟨hn, hg⟩ := List.getElem?_eq_some_iff.1 g1
  rw [e, List.take_succ_eq_append_getElem hn]
  unfold SId at hs ⊢
  rw [List.pairwise_append]
  refine ⟨hs, List.pairwise_singleton _ _, fun a ha b hb => ?_⟩
  rw [List.mem_singleton] at hb
  subst hb
  rw [hg]
  obtain ⟨i, hi, rfl⟩ := List.getElem_of_mem ha
  have hi' : i < n.toNat := by simp at hi; omega
  obtain ⟨z, hz, _, _⟩ := idx_lt l (i := n - 1) (by omega) (by omega)
  have g2 := (idx_some hz).2.2
  obtain ⟨hn2, hg2⟩ := List.getElem?_eq_some_iff.1 g2
  have hlast := hp z (by omega) hz
  by_cases c : i = (n - 1).toNat
  · subst c
    rw [List.getElem_take, hg2]; exact hlast
  · have := List.pairwise_iff_getElem.1 hs i (n - 1).toNat hi (by simp; omega) (by omega)
    rw [List.getElem_take (j := n.toNat) (i := (n - 1).toNat), hg2] at this
    exact cmpB_tr this hlast
/-- Changes that may be checked. -/
def CB (c : List Change) : Prop := c.length ≤ 2000 ∧ ∀ x ∈ c, x.Name.length ≤ 100000 ∧ x.From.Words.length ≤ 100000 ∧ x.To.Words.length ≤ 100000
def SC (c : List Change) : Prop := SId Change.Name c
theorem errs_two (c : List Change) (n : Int) (v : Change) (a b : Int) : Q_ChangesFault_l2 c n v a b 0 = if orL [a, b] ≠ 0 then some (.inr (orL [a, b])) else Q_ChangesFault_k2 c n v := by
  unfold Q_ChangesFault_l2
  rw [iter_eq]
  show Option.bind (Q_ChangesFault_b2 c n v a b 0) _ = _
  unfold Q_ChangesFault_b2
  rw [if_pos (by simp), show idx [a, b] 0 = some a from rfl]
  simp only [Option.bind_some]
  by_cases ha : a = 0
  · subst ha
    rw [if_neg (by simp)]
    show iter _ (1 : Int) = _
    rw [iter_eq]
    show Option.bind (Q_ChangesFault_b2 c n v 0 b 1) _ = _
    unfold Q_ChangesFault_b2
    rw [if_pos (by simp), show idx [0, b] 1 = some b from rfl]
    simp only [Option.bind_some]
    by_cases hb : b = 0
    · subst hb
      rw [if_neg (by simp)]
      show iter _ (2 : Int) = _
      rw [iter_eq]
      show Option.bind (Q_ChangesFault_b2 c n v 0 0 2) _ = _
      unfold Q_ChangesFault_b2
      rw [if_neg (by simp), if_neg (by simp [orL])]
      cases Q_ChangesFault_k2 c n v <;> rfl
    · rw [if_pos hb]
      have : orL [0, b] = b := by simp [orL, hb]
      rw [this, if_pos hb]; rfl
  · rw [if_pos ha]
    have : orL [a, b] = a := by simp [orL, ha]
    rw [this, if_pos ha]; rfl
theorem CheckChanges_eq (c : List Change) (hb : CB c) : ∃ r, twin_CheckChanges c = some r ∧ Q_ChangesFault c = some r ∧ (r = 0 → SC c ∧ c.length ≤ 1000) := by
  have hl := hb.1
  unfold twin_CheckChanges Q_ChangesFault
  by_cases h5 : (1000 : Int) < (c.length : Int)
  · rw [if_pos h5, if_pos h5]; exact ⟨2, rfl, rfl, fun h => by omega⟩
  rw [if_neg h5, if_neg h5]
  have key : ∃ r, twin_CheckChanges_l1 c 0 = some r ∧ Q_ChangesFault_l1 c 0 = some r ∧ (r = 0 → SC c) := by
    unfold twin_CheckChanges_l1 Q_ChangesFault_l1
    refine iter_two _ _ (fun n : Int => (c.length - n).toNat) (fun n : Int => 0 ≤ n ∧ n ≤ c.length ∧ SC (c.take n.toNat)) (fun r => r = 0 → SC c) ?_ (c.length + 1) 0 (by omega) ⟨by omega, by omega, by simp [SC, SId]⟩
    rintro n ⟨h0, h1, h2⟩
    unfold twin_CheckChanges_b1 Q_ChangesFault_b1
    by_cases hn : n < c.length
    · obtain ⟨v, hv, hm, _⟩ := idx_lt c h0 hn
      obtain ⟨b1, b2, b3⟩ := hb.2 v hm
      rw [if_pos hn, if_pos hn, hv]
      simp only [Option.bind_some]
      rw [isName_eq (by omega), QPropName_eq (by omega)]
      simp only [Option.bind_some]
      by_cases hd : (!dotB 8 v.Name) = true
      · right; rw [if_pos hd, if_pos hd]; exact ⟨5, rfl, rfl, fun h => by omega⟩
      rw [if_neg hd, if_neg hd, valueFault_eq _ (by omega), valueFault_eq _ (by omega)]
      obtain ⟨e1, he1⟩ := vf_tot v.From (by omega)
      obtain ⟨e2, he2⟩ := vf_tot v.To (by omega)
      rw [he1, he2]
      simp only [Option.bind_some]
      rw [First_eq _ (by simp), errs_two]
      simp only [Option.bind_some]
      by_cases h6 : orL [e1, e2] ≠ 0
      · right; rw [if_pos h6, if_pos h6]; exact ⟨_, rfl, rfl, fun h => absurd h h6⟩
      rw [if_neg h6, if_neg h6]
      unfold Q_ChangesFault_k2
      by_cases hk : v.From = v.To
      · right; rw [if_pos hk, if_pos hk]; exact ⟨3, rfl, rfl, fun h => by omega⟩
      rw [if_neg hk, if_neg hk]
      by_cases hp : 0 < n
      · rw [if_pos hp, if_pos hp, w64_in (x := n - 1) (by omega) (by omega)]
        obtain ⟨z, hz, _, _⟩ := idx_lt c (i := n - 1) (by omega) (by omega)
        rw [hz]
        simp only [Option.bind_some]
        unfold twin_CheckChanges_j1 Q_ChangesFault_j1
        by_cases ho : (Op.bytesLess v.Name z.Name || v.Name == z.Name) = true
        · right; rw [if_pos ho]; exact ⟨7, rfl, rfl, fun h => by omega⟩
        · left; rw [if_neg ho, w64_in (by omega) (by omega)]
          refine ⟨_, rfl, rfl, ⟨by omega, by omega, sid_step Change.Name h0 hv h2 fun x _ hx => ?_⟩, by omega⟩
          rw [hz] at hx
          obtain rfl := Option.some.inj hx
          rw [less_iff] at ho
          have ho' : ¬ Lib.compareBytes v.Name z.Name < 0 ∧ ¬ v.Name = z.Name := by simpa using ho
          have hneg := cmpB_neg v.Name z.Name
          have hz0 : Lib.compareBytes v.Name z.Name ≠ 0 := fun h => ho'.2 (cmpB_zero h)
          omega
      · rw [if_neg hp, if_neg hp]
        left
        unfold twin_CheckChanges_j1 Q_ChangesFault_j1
        rw [if_neg (by simp), w64_in (by omega) (by omega)]
        exact ⟨_, rfl, rfl, ⟨by omega, by omega, sid_step Change.Name h0 hv h2 fun x h _ => absurd h hp⟩, by omega⟩
    · rw [if_neg hn, if_neg hn]
      have hlen : n.toNat = c.length := by omega
      rw [hlen, List.take_length] at h2
      right
      exact ⟨0, rfl, rfl, fun _ => h2⟩
  obtain ⟨r, g1, g2, g3⟩ := key
  exact ⟨r, g1, g2, fun h => ⟨g3 h, by omega⟩⟩
end Go.Beacon

/- Making changes: the program's way and the reference's. No program in sight. -/
set_option linter.unusedVariables false
set_option linter.unusedSimpArgs false
namespace Go.Beacon
open Go Go.Eng

theorem PB.perm {a b : List PropS} (h : PB a) (hp : b.Perm a) : PB b := ⟨by rw [hp.length_eq]; exact h.1, fun p hq => h.2 p (hp.mem_iff.1 hq)⟩
end Go.Beacon

/- ChangesMade: the generator of changes, and the law. No program in sight. -/
set_option linter.unusedVariables false
set_option linter.unusedSimpArgs false
namespace Go.Beacon
open Go Go.Eng

/-- Few and short changes. -/
def CF (c : List Change) : Prop := c.length ≤ 11 ∧ ∀ x ∈ c, x.Name.length ≤ 1000 ∧ x.From.Words.length ≤ 1001 ∧ x.To.Words.length ≤ 1001
theorem CF.cb {c : List Change} (h : CF c) : CB c := ⟨by have := h.1; omega, fun x hx => by have := h.2 x hx; omega⟩
theorem CF.set {c : List Change} (h : CF c) (i : Nat) {y : Change} (hy : y.Name.length ≤ 1000 ∧ y.From.Words.length ≤ 1001 ∧ y.To.Words.length ≤ 1001) : CF (c.set i y) :=
  ⟨by rw [List.length_set]; exact h.1, fun x hx => by
    rcases List.mem_or_eq_of_mem_set hx with e | e
    · exact h.2 x e
    · subst e; exact hy⟩
theorem difL_cf {a b : List PropS} (ha : PF 6 a) (hb : PF 5 b) : CF (difL a b (nmsL [a, b])) := by
  have h1 := flat_len (difG a b) (difG_len a b) (nmsL [a, b])
  have h2 := nms_len [a, b]
  have h3 := flatN2 a b
  have h4 := ha.1
  have h5 := hb.1
  refine ⟨by unfold difL; omega, fun x hx => ?_⟩
  unfold difL at hx
  obtain ⟨n, hn, hxn⟩ := List.mem_flatMap.1 hx
  have hl : n.length ≤ 1000 := by
    obtain ⟨l, hl, p, hp, rfl⟩ := (nms_mem _ _).1 hn
    rcases List.mem_cons.1 hl with e | e
    · subst e; exact (ha.2 p hp).1
    · rw [List.mem_singleton] at e; subst e; exact (hb.2 p hp).1
  unfold difG at hxn
  split at hxn
  · rw [List.mem_singleton] at hxn
    subst hxn
    exact ⟨hl, valL_words a n 1001 (fun p hp => (ha.2 p hp).2), valL_words b n 1001 (fun p hp => (hb.2 p hp).2)⟩
  · cases hxn
theorem Changes_j1 {L : List Int} {a K : Int} {v : List Change} {b : Bool} (hs : SOk ⟨L, a⟩ K) (hK : 12 ≤ K) (hv : CF v) (hb : b = true → 0 < v.length) : Ok (Stream_Changes_j1 v L a b) (fun r => CF r.1 ∧ SOk r.2 (K - 12)) := by
  have hv1 := hv.1
  unfold Stream_Changes_j1 Stream_Changes_j5 Stream_Changes_j4 Stream_Changes_j3 Stream_Changes_j2
  split
  · rename_i h
    have hb' := hb h
    refine Ok.gen (Next_k hs (by omega) (by omega) (by omega)) (fun i s1 hi q1 => ?_)
    dsimp only
    refine Ok.idx hi.1 hi.2 (fun x hx hm => ?_)
    have hx' := hv.2 x hm
    refine Ok.gen (Next_k q1 (by omega) (by omega) (by omega)) (fun c s2 _ q2 => ?_)
    dsimp only
    split
    · refine Ok.gen (PropName_k q2 (by omega)) (fun n s3 hn q3 => ?_)
      exact Ok.ret ⟨hv.set _ ⟨hn, hx'.2⟩, q3.less (by omega)⟩
    · split
      · refine Ok.gen (Value_k q2 (by omega)) (fun n s3 hn q3 => ?_)
        exact Ok.ret ⟨hv.set _ ⟨hx'.1, hn, hx'.2.2⟩, q3.less (by omega)⟩
      · split
        · refine Ok.gen (Value_k q2 (by omega)) (fun n s3 hn q3 => ?_)
          exact Ok.ret ⟨hv.set _ ⟨hx'.1, hx'.2.1, hn⟩, q3.less (by omega)⟩
        · exact Ok.ret ⟨hv.set _ ⟨hx'.1, hx'.2.2, hx'.2.2⟩, q2.less (by omega)⟩
  · exact Ok.ret ⟨hv, hs.less (by omega)⟩
theorem Changes_k {s : Stm} {K : Int} {l : List PropS} (hs : SOk s K) (hK : 40 ≤ K) (hl : PF 6 l) : Gen (Stream_Changes s l) (K - 40) CF := by
  refine Gen.of ?_
  unfold Stream_Changes
  refine Ok.gen (RightProps_k hs (by omega)) (fun r s1 hr q1 => ?_)
  dsimp only
  rw [DifferOf_eq l r (by have := hl.1; omega) (by have := hr.1; omega)]
  simp only [Option.bind_some]
  have hcf := difL_cf hl hr
  split
  · rename_i h
    refine Ok.gen (Flip_k q1 (by omega) (by omega) (by omega)) (fun c s2 _ q2 => ?_)
    exact (Changes_j1 q2 (by omega) hcf (fun _ => by omega)).mono (fun v hv => ⟨hv.1, hv.2.less (by omega)⟩)
  · exact (Changes_j1 q1 (by omega) hcf (fun h => by cases h)).mono (fun v hv => ⟨hv.1, hv.2.less (by omega)⟩)
end Go.Beacon

/- What is owed: the program's way and the reference's. No program in sight. -/
set_option linter.unusedVariables false
set_option linter.unusedSimpArgs false
namespace Go.Beacon
open Go Go.Eng

theorem vis_mem {D L : List Cell} {p : PropS} (h : p ∈ L.flatMap (visG D)) : ∃ c ∈ L, p = c.Prop_ ∧ c.Prop_.Value.Kind ≠ 0 := by
  obtain ⟨c, hc, hp⟩ := List.mem_flatMap.1 h
  unfold visG at hp
  split at hp
  · rename_i hk
    rw [List.mem_singleton] at hp
    refine ⟨c, hc, hp, ?_⟩
    intro e
    simp [e] at hk
  · cases hp
theorem vis_SN (D : List Cell) : ∀ L : List Cell, SId cN L → SN (L.flatMap (visG D))
  | [], _ => List.Pairwise.nil
  | c :: L, h => by
    have h1 := List.pairwise_cons.1 h
    have ih := vis_SN D L h1.2
    rw [List.flatMap_cons]
    unfold visG
    split
    · refine List.pairwise_cons.2 ⟨fun p hp => ?_, ih⟩
      obtain ⟨d, hd, rfl, _⟩ := vis_mem (D := D) (L := L) hp
      exact h1.1 d hd
    · exact ih
/-- Names that are to be gone. -/
def goneG (D : List Cell) (c : Cell) : List Str := if (decide (c.Prop_.Value.Kind = 0) && !(D.any fun x => hdB x c)) = true then [cN c] else []
theorem goneG_len (D : List Cell) (c : Cell) : (goneG D c).length ≤ 1 := by unfold goneG; split <;> simp
def skipB (G : List Str) (W : List PropS) (n : Str) : Bool := decide ((valL W n).Kind = 0) && (!(G.any fun s => decide (s = n) || abvB s n) && !(W.any fun p => abvB n p.Name))
def chF (n : Str) (x v : ValueS) : List Change := if x ≠ v then [⟨n, x, v⟩] else []
theorem chF_self (n : Str) (x : ValueS) : chF n x x = [] := if_neg (fun h => h rfl)
def owG (G : List Str) (W H : List PropS) (n : Str) : List Change := if skipB G W n = true then [] else chF n (valL H n) (valL W n)
theorem owG_len (G : List Str) (W H : List PropS) (n : Str) : (owG G W H n).length ≤ 1 := by unfold owG chF; repeat' split; all_goals simp
theorem Owed_l2 (G : List Str) (W H : List PropS) (hG : G.length ≤ 1000) (hW : W.length ≤ 1000) (hH : H.length ≤ 1000) (uW : SN W) (uH : SN H) (N : List Str) (hN : N.length ≤ 100000) : twin_Owed_l2 W H G N [] 0 = some (N.flatMap (owG G W H), 0) := by
  unfold twin_Owed_l2
  refine iter_fl N (owG G W H) (owG_len G W H) _ _ [] (fun X i x h0 h1 hx hm hX => ?_) (fun i hi => ?_)
  · simp only [List.length_nil] at hX
    simp only
    rw [twin_Owed_b2, if_pos h1, hx]
    simp only [Option.bind_some]
    rw [TvalueOf_eq H hH uH x, TvalueOf_eq W hW uW x]
    simp only [Option.bind_some]
    have j4 : ∀ c : Bool, c = skipB G W x → twin_Owed_j4 X i x (valL H x) (valL W x) c = some (.inl (X ++ owG G W H x, i + 1)) := by
      intro c hc
      unfold twin_Owed_j4 twin_Owed_j5 twin_Owed_j3 owG chF
      rw [← hc, w64_in (by omega) (by omega)]
      by_cases h : c = true
      · rw [if_pos h, if_pos h, List.append_nil]
      · rw [if_neg h, if_neg h]
        by_cases h2 : valL H x ≠ valL W x
        · rw [if_pos h2, if_pos h2, app_le (by simp; omega)]; rfl
        · rw [if_neg h2, if_neg h2, List.append_nil]
    by_cases hk : (valL W x).Kind = 0
    · rw [if_pos hk, show slices_ContainsFunc_string_string G (fun y0 => twin_Owed_1x y0 x) = some (G.any fun s => decide (s = x) || abvB s x) from gContainsFunc_eq G _ _ (fun s _ => by
        unfold twin_Owed_1x twin_Owed_1x_j1
        rw [Below_eq]
        by_cases e : s = x
        · rw [if_pos e, decide_eq_true e]; rfl
        · rw [if_neg e, decide_eq_false e]; rfl) (by omega)]
      simp only [Option.bind_some]
      cases hg : (G.any fun s => decide (s = x) || abvB s x) with
      | true =>
        rw [if_neg (by simp)]
        exact j4 _ (by unfold skipB; rw [hg]; simp)
      | false =>
        rw [if_pos (by simp), show slices_ContainsFunc_Prop_Prop W (fun y0 => twin_Owed_2x y0 x) = some (W.any fun p => abvB x p.Name) from gContainsFunc_eq W _ _ (fun p _ => by unfold twin_Owed_2x; rw [Below_eq]; rfl) (by omega)]
        simp only [Option.bind_some]
        exact j4 _ (by unfold skipB; rw [hg, decide_eq_true hk]; simp)
    · rw [if_neg hk]
      exact j4 _ (by unfold skipB; rw [decide_eq_false hk]; rfl)
  · simp only
    rw [twin_Owed_b2, if_neg (by omega)]; rfl
theorem Owed_l1 (t : TwinS) (W H : List PropS) (hD : t.Desired.length ≤ 1000) : twin_Owed_l1 t W H [] 0 = twin_Owed_k6 W H (t.Desired.flatMap (goneG t.Desired)) := by
  unfold twin_Owed_l1
  refine iter_fl t.Desired (goneG t.Desired) (goneG_len t.Desired) _ _ [] (fun X i x h0 h1 hx hm hX => ?_) (fun i hi => ?_)
  · simp only [List.length_nil] at hX
    simp only
    rw [twin_Owed_b1, if_pos h1, hx]
    simp only [Option.bind_some]
    have j1 : ∀ c : Bool, c = (decide (x.Prop_.Value.Kind = 0) && !(t.Desired.any fun z => hdB z x)) → twin_Owed_j1 X i x c = some (.inl (X ++ goneG t.Desired x, i + 1)) := by
      intro c hc
      unfold twin_Owed_j1 twin_Owed_j2 goneG
      rw [← hc, w64_in (by omega) (by omega)]
      by_cases h : c = true
      · rw [if_pos h, if_pos h, app_le (by simp; omega)]; rfl
      · rw [if_neg h, if_neg h, List.append_nil]
    by_cases hk : x.Prop_.Value.Kind = 0
    · rw [if_pos hk, hidden_eq t.Desired hD x (fun y0 => some (twin_every y0)) (fun _ => true) (fun z => rfl)]
      simp only [Option.bind_some, Bool.and_true]
      exact j1 _ (by rw [decide_eq_true hk]; rfl)
    · rw [if_neg hk]
      exact j1 _ (by rw [decide_eq_false hk]; rfl)
  · simp only
    rw [twin_Owed_b1, if_neg (by omega)]; rfl
def wantL (l : List Cell) : List PropS := l.flatMap (visG l)
/-- What is owed. -/
def owL (t : TwinS) : List Change := (nmsL [wantL t.Desired, wantL t.Reported]).flatMap (owG (t.Desired.flatMap (goneG t.Desired)) (wantL t.Desired) (wantL t.Reported))
theorem twinFault_eq (t : TwinS) {r1 r2 : Int} (h1 : twin_CheckCells t.Desired = some r1) (h2 : twin_CheckCells t.Reported = some r2) : twin_twinFault t = some (orL [r1, r2]) := by
  unfold twin_twinFault
  rw [h1, h2]
  simp only [Option.bind_some]
  rw [First_eq _ (by simp)]; rfl
theorem QTwinFault_eq (t : TwinS) {r1 r2 : Int} (h1 : Q_CellsFault t.Desired = some r1) (h2 : Q_CellsFault t.Reported = some r2) : Q_TwinFault t = some (orL [r1, r2]) := by
  unfold Q_TwinFault
  rw [h1, h2]
  simp only [Option.bind_some]
  rw [orL2]
  split <;> rfl
theorem wantL_len (l : List Cell) : (wantL l).length ≤ l.length := flatC_len (visG l) (visG_len l) l
theorem Owed_eq (t : TwinS) (hD : CL t.Desired) (hR : CL t.Reported) {r1 r2 : Int} (h1 : twin_CheckCells t.Desired = some r1) (h2 : twin_CheckCells t.Reported = some r2) (s1 : r1 = 0 → SId cN t.Desired) (s2 : r2 = 0 → SId cN t.Reported) : twin_Owed t = some (if orL [r1, r2] ≠ 0 then ([], orL [r1, r2]) else (owL t, 0)) := by
  have d1 := hD.1
  have d2 := hR.1
  have w1 := wantL_len t.Desired
  have w2 := wantL_len t.Reported
  unfold twin_Owed
  rw [twinFault_eq t h1 h2]
  simp only [Option.bind_some]
  by_cases h : orL [r1, r2] ≠ 0
  · rw [if_pos h, if_pos h]
  · rw [if_neg h, if_neg h]
    have hz := orL2_zero (x := r1) (y := r2) (by simpa using h)
    rw [visible_eq t.Desired d1, visible_eq t.Reported d2]
    simp only [Option.bind_some]
    rw [Owed_l1 t _ _ d1]
    unfold twin_Owed_k6
    have hf := flatN2 (wantL t.Desired) (wantL t.Reported)
    have hn := nms_len [wantL t.Desired, wantL t.Reported]
    have hg := flatC_len (goneG t.Desired) (goneG_len t.Desired) t.Desired
    rw [show t.Desired.flatMap (visG t.Desired) = wantL t.Desired from rfl, show t.Reported.flatMap (visG t.Reported) = wantL t.Reported from rfl, names_eq [wantL t.Desired, wantL t.Reported] (by simp) (by omega)]
    simp only [Option.bind_some]
    exact Owed_l2 (t.Desired.flatMap (goneG t.Desired)) (wantL t.Desired) (wantL t.Reported) (by omega) (by omega) (by omega) (vis_SN _ _ (s1 hz.1)) (vis_SN _ _ (s2 hz.2)) _ (by omega)
/-! the reference -/
def ZV : ValueS := ⟨0, false, 0, []⟩
def cG (D : List Cell) (n : Str) (c : Cell) : Bool := decide (c.Prop_.Value.Kind = 0) && (!(D.any fun x => hdB x c) && (decide (cN c = n) || abvB (cN c) n))
def hv (D : List Cell) (W : List PropS) (p : PropS) : ValueS := if (W.any fun q => abvB p.Name q.Name) = true then ZV else if (D.any (cG D p.Name)) = true then ZV else p.Value
theorem mset2 {m : List (Str × ValueS)} (h : SM m) (k : Str) (u v : ValueS) : mset (mset m k u) k v = mset m k v :=
  map_ext ((h.set k u).set k v) (h.set k v) (fun k' => by
    rw [mget_mset, mget_mset, mget_mset]
    split <;> rfl)
theorem any_take {α : Type} (f : α → Bool) {l : List α} {n : Nat} (h : n < l.length) : (l.take (n + 1)).any f = ((l.take n).any f || f l[n]) := by
  rw [List.take_succ_eq_append_getElem h, List.any_append]; simp
theorem OwedOf_l3 (W : List PropS) (hW : W.length ≤ 1000) (n10 : Int) (h10 : 0 ≤ n10 ∧ n10 ≤ 1000) (p : PropS) (hp : p.Name.length ≤ 100000) (m : List (Str × ValueS)) (hm : SM m) (u : ValueS) : Q_OwedOf_l3 W n10 p (mset m p.Name u) 0 = some (.inl (mset m p.Name (if (W.any fun q => abvB p.Name q.Name) = true then ZV else u), n10 + 1)) := by
  unfold Q_OwedOf_l3
  refine iter_to _ (fun x : List (Str × ValueS) × Int => (W.length - x.2).toNat) (fun x : List (Str × ValueS) × Int => 0 ≤ x.2 ∧ x.2 ≤ W.length ∧ x.1 = mset m p.Name (if ((W.take x.2.toNat).any fun q => abvB p.Name q.Name) = true then ZV else u)) _ ?_ _ ⟨by simp, by simp, by simp⟩
  rintro ⟨X, n⟩ ⟨g0, g1, g2⟩
  simp only at g0 g1 g2 ⊢
  unfold Q_OwedOf_b3
  by_cases hn : n < W.length
  · left
    obtain ⟨v, hvv, hmm, _⟩ := idx_lt W g0 hn
    obtain ⟨hn', hg'⟩ := List.getElem?_eq_some_iff.1 (idx_some hvv).2.2
    have e : (n + 1).toNat = n.toNat + 1 := by omega
    have ha := any_take (fun q : PropS => abvB p.Name q.Name) hn'
    rw [hg'] at ha
    rw [if_pos hn, hvv]
    simp only [Option.bind_some]
    rw [Qabove_eq _ _ (by omega)]
    simp only [Option.bind_some]
    unfold Q_OwedOf_j3
    rw [w64_in (by omega) (by omega)]
    cases hb : abvB p.Name v.Name with
    | true =>
      rw [if_pos rfl]
      refine ⟨_, rfl, ⟨by simp only; omega, by simp only; omega, ?_⟩, by simp only; omega⟩
      simp only
      rw [e, ha, hb, Bool.or_true, if_pos rfl, g2, mset2 hm]; rfl
    | false =>
      rw [if_neg (by simp)]
      refine ⟨_, rfl, ⟨by simp only; omega, by simp only; omega, ?_⟩, by simp only; omega⟩
      simp only
      rw [e, ha, hb, Bool.or_false, g2]
  · right
    rw [if_neg hn, g2, List.take_of_length_le (by omega), w64_in (by omega) (by omega)]
theorem OwedOf_l2 (t : TwinS) (hD : CL t.Desired) (W : List PropS) (n10 : Int) (p : PropS) (m : List (Str × ValueS)) (hm : SM m) (u : ValueS) : Q_OwedOf_l2 t W n10 p (mset m p.Name u) 0 = Q_OwedOf_l3 W n10 p (mset m p.Name (if (t.Desired.any (cG t.Desired p.Name)) = true then ZV else u)) 0 := by
  have hdl := hD.1
  unfold Q_OwedOf_l2
  refine iter_to _ (fun x : List (Str × ValueS) × Int => (t.Desired.length - x.2).toNat) (fun x : List (Str × ValueS) × Int => 0 ≤ x.2 ∧ x.2 ≤ t.Desired.length ∧ x.1 = mset m p.Name (if ((t.Desired.take x.2.toNat).any (cG t.Desired p.Name)) = true then ZV else u)) _ ?_ _ ⟨by simp, by simp, by simp⟩
  rintro ⟨X, n⟩ ⟨g0, g1, g2⟩
  simp only at g0 g1 g2 ⊢
  unfold Q_OwedOf_b2
  by_cases hn : n < t.Desired.length
  · left
    obtain ⟨v, hvv, hmm, _⟩ := idx_lt t.Desired g0 hn
    obtain ⟨hn', hg'⟩ := List.getElem?_eq_some_iff.1 (idx_some hvv).2.2
    have e : (n + 1).toNat = n.toNat + 1 := by omega
    have ha := any_take (cG t.Desired p.Name) hn'
    rw [hg'] at ha
    rw [if_pos hn, hvv]
    simp only [Option.bind_some]
    have j1 : ∀ c : Bool, c = cG t.Desired p.Name v → ∃ s', Q_OwedOf_j1 p X n c = some (.inl s') ∧ (0 ≤ s'.2 ∧ s'.2 ≤ t.Desired.length ∧ s'.1 = mset m p.Name (if ((t.Desired.take s'.2.toNat).any (cG t.Desired p.Name)) = true then ZV else u)) ∧ (t.Desired.length - s'.2).toNat < (t.Desired.length - n).toNat := by
      intro c hc
      unfold Q_OwedOf_j1 Q_OwedOf_j2
      rw [w64_in (by omega) (by omega)]
      by_cases hb : c = true
      · rw [if_pos hb]
        refine ⟨_, rfl, ⟨by simp only; omega, by simp only; omega, ?_⟩, by simp only; omega⟩
        simp only
        rw [e, ha, ← hc, hb, Bool.or_true, if_pos rfl, g2, mset2 hm]; rfl
      · rw [if_neg hb]
        refine ⟨_, rfl, ⟨by simp only; omega, by simp only; omega, ?_⟩, by simp only; omega⟩
        simp only
        have hb' : c = false := by simpa using hb
        rw [e, ha, ← hc, hb', Bool.or_false, g2]
    unfold Q_valued
    have hvl := (hD.2 v hmm).1
    unfold cN at hvl
    by_cases hk : v.Prop_.Value.Kind = 0
    · rw [if_pos (by rw [decide_eq_false (show ¬ v.Prop_.Value.Kind ≠ 0 from fun h => h hk)]; rfl), Qhidden_eq t.Desired t.Desired hD hdl (fun z hz => hz) v hmm]
      simp only [Option.bind_some]
      cases hh : (t.Desired.any fun x => hdB x v) with
      | true =>
        rw [if_neg (by simp)]
        exact j1 _ (by unfold cG; rw [hh]; simp)
      | false =>
        rw [if_pos (by simp)]
        by_cases hnn : v.Prop_.Name = p.Name
        · rw [if_pos hnn]
          exact j1 _ (by unfold cG cN; rw [hh, decide_eq_true hk, decide_eq_true hnn]; rfl)
        · rw [if_neg hnn, Qabove_eq _ _ (by omega)]
          simp only [Option.bind_some]
          exact j1 _ (by unfold cG cN; rw [hh, decide_eq_true hk, decide_eq_false hnn]; rfl)
    · rw [if_neg (by rw [decide_eq_true (show v.Prop_.Value.Kind ≠ 0 from hk)]; simp)]
      exact j1 _ (by unfold cG; rw [decide_eq_false hk]; rfl)
  · right
    rw [if_neg hn, g2, List.take_of_length_le (by omega)]
theorem OwedOf_l4 (W H : List PropS) (hl : W.length ≤ 1000) : ∀ m0, Q_OwedOf_l4 W H m0 0 = Q_OwedOf_k5 W H (setG PropS.Name PropS.Value m0 W) := by
  intro m0
  unfold Q_OwedOf_l4
  refine iter_to _ (fun x : List (Str × ValueS) × Int => (W.length - x.2).toNat) (fun x : List (Str × ValueS) × Int => 0 ≤ x.2 ∧ x.2 ≤ W.length ∧ x.1 = setG PropS.Name PropS.Value m0 (W.take x.2.toNat)) _ ?_ _ ⟨by simp, by simp, rfl⟩
  rintro ⟨X, n⟩ ⟨g0, g1, g2⟩
  simp only at g0 g1 g2 ⊢
  unfold Q_OwedOf_b4
  by_cases hn : n < W.length
  · left
    obtain ⟨v, hv, hm, _⟩ := idx_lt W g0 hn
    obtain ⟨hn', hg'⟩ := List.getElem?_eq_some_iff.1 (idx_some hv).2.2
    have e : (n + 1).toNat = n.toNat + 1 := by omega
    rw [if_pos hn, hv]
    simp only [Option.bind_some]
    rw [w64_in (by omega) (by omega)]
    refine ⟨_, rfl, ⟨by simp only; omega, by simp only; omega, ?_⟩, by simp only; omega⟩
    simp only
    rw [e, List.take_succ_eq_append_getElem hn', setG_snoc, g2, hg']
  · right
    rw [if_neg hn, g2, List.take_of_length_le (by omega)]
theorem OwedOf_l1 (t : TwinS) (hD : CL t.Desired) (W H : List PropS) (hW : W.length ≤ 1000) (hH : H.length ≤ 1000) (hHn : ∀ p ∈ H, p.Name.length ≤ 100000) : Q_OwedOf_l1 t W H [] 0 = Q_OwedOf_l4 W H (setG PropS.Name (hv t.Desired W) [] H) 0 := by
  unfold Q_OwedOf_l1
  refine iter_to _ (fun x : List (Str × ValueS) × Int => (H.length - x.2).toNat) (fun x : List (Str × ValueS) × Int => 0 ≤ x.2 ∧ x.2 ≤ H.length ∧ x.1 = setG PropS.Name (hv t.Desired W) [] (H.take x.2.toNat)) _ ?_ _ ⟨by simp, by simp, rfl⟩
  rintro ⟨X, n⟩ ⟨g0, g1, g2⟩
  simp only at g0 g1 g2 ⊢
  unfold Q_OwedOf_b1
  by_cases hn : n < H.length
  · left
    obtain ⟨v, hvv, hm, _⟩ := idx_lt H g0 hn
    obtain ⟨hn', hg'⟩ := List.getElem?_eq_some_iff.1 (idx_some hvv).2.2
    have e : (n + 1).toNat = n.toNat + 1 := by omega
    have hX : SM X := by rw [g2]; exact setG_SM _ _ _ SM.nil
    rw [if_pos hn, hvv]
    simp only [Option.bind_some]
    rw [OwedOf_l2 t hD W n v X hX v.Value, OwedOf_l3 W hW n ⟨by omega, by omega⟩ v (hHn v hm) X hX]
    refine ⟨_, rfl, ⟨by simp only; omega, by simp only; omega, ?_⟩, by simp only; omega⟩
    simp only
    rw [e, List.take_succ_eq_append_getElem hn', setG_snoc, ← g2, hg']
    rfl
  · right
    rw [if_neg hn, g2, List.take_of_length_le (by omega)]
def ofG (M : List (Str × ValueS)) (H : List PropS) (n : Str) : List Change := chF n (valL H n) ((mget? M n).getD ZV)
theorem ofG_len (M : List (Str × ValueS)) (H : List PropS) (n : Str) : (ofG M H n).length ≤ 1 := by unfold ofG chF; split <;> simp
theorem OwedOf_l5 (H : List PropS) (hH : H.length ≤ 1000) (M : List (Str × ValueS)) (N : List Str) (hN : N.length ≤ 100000) : Q_OwedOf_l5 H M N [] 0 = some (N.flatMap (ofG M H)) := by
  unfold Q_OwedOf_l5
  refine iter_fl N (ofG M H) (ofG_len M H) _ _ [] (fun X i x h0 h1 hx hm hX => ?_) (fun i hi => ?_)
  · simp only [List.length_nil] at hX
    simp only
    rw [Q_OwedOf_b5, if_pos h1, hx]
    simp only [Option.bind_some, mgetO]
    rw [QValueOf_eq H hH x]
    simp only [Option.bind_some]
    unfold Q_OwedOf_j4 ofG chF
    rw [w64_in (by omega) (by omega)]
    by_cases c : (mget? M x).getD ZV ≠ valL H x
    · rw [if_pos (Ne.symm c)]
      have c' : (mget? M x).getD (⟨0, false, 0, []⟩ : ValueS) ≠ valL H x := c
      rw [if_pos c', app_le (by simp; omega)]; rfl
    · rw [if_neg (fun h => c (Ne.symm h))]
      have c' : ¬ (mget? M x).getD (⟨0, false, 0, []⟩ : ValueS) ≠ valL H x := c
      rw [if_neg c', List.append_nil]
  · simp only
    rw [Q_OwedOf_b5, if_neg (by omega)]; rfl
theorem ow_of (D : List Cell) (W H : List PropS) (uW : SN W) (uH : SN H) (kW : ∀ p ∈ W, p.Value.Kind ≠ 0) (n : Str) : ofG (setG PropS.Name PropS.Value (setG PropS.Name (hv D W) [] H) W) H n = owG (D.flatMap (goneG D)) W H n := by
  have hg : mget? (setG PropS.Name PropS.Value (setG PropS.Name (hv D W) [] H) W) n = ((gt PropS.Name W n).map PropS.Value).or ((gt PropS.Name H n).map (hv D W)) := by
    rw [setG_get PropS.Name PropS.Value W _ n (SId.ne PropS.Name uW), setG_get PropS.Name (hv D W) H _ n (SId.ne PropS.Name uH)]
    simp [mget_nil]
  have hany : ((D.flatMap (goneG D)).any fun s => decide (s = n) || abvB s n) = D.any (cG D n) := by
    rw [List.any_flatMap]
    congr 1
    funext c
    unfold goneG cG
    cases decide (c.Prop_.Value.Kind = 0) <;> cases (D.any fun x => hdB x c) <;> simp
  unfold ofG owG skipB
  rw [hg, hany, valL_gt W, valL_gt H]
  cases gw : gt PropS.Name W n with
  | some p =>
    have hk := kW p (gt_some PropS.Name gw).1
    have e : decide ((((some p).map PropS.Value).getD (⟨0, false, 0, []⟩ : ValueS)).Kind = 0) = false := decide_eq_false hk
    rw [e, Bool.false_and, if_neg (by simp)]
    rfl
  | none =>
    cases gh : gt PropS.Name H n with
    | none =>
      show chF n ZV ZV = if _ = true then [] else chF n ZV ZV
      rw [chF_self]
      split <;> rfl
    | some p =>
      have hpn : p.Name = n := (gt_some PropS.Name gh).2
      show chF n p.Value (hv D W p) = if (decide ((0 : Int) = 0) && (!(D.any (cG D n)) && !(W.any fun q => abvB n q.Name))) = true then [] else chF n p.Value ZV
      unfold hv
      rw [hpn]
      cases h1 : (W.any fun q => abvB n q.Name) with
      | true => rw [if_pos rfl, if_neg (by simp)]
      | false =>
        rw [if_neg (by simp)]
        cases h2 : D.any (cG D n) with
        | true => rw [if_pos rfl, if_neg (by simp)]
        | false => rw [if_neg (by simp), if_pos (by simp), chF_self]
theorem OwedOf_eq (t : TwinS) (hD : CL t.Desired) (hR : CL t.Reported) (s1 : SId cN t.Desired) (s2 : SId cN t.Reported) : Q_OwedOf t = some (owL t) := by
  have d1 := hD.1
  have d2 := hR.1
  have w1 := wantL_len t.Desired
  have w2 := wantL_len t.Reported
  unfold Q_OwedOf
  rw [VisibleOf_eq t.Desired hD, VisibleOf_eq t.Reported hR]
  simp only [Option.bind_some]
  rw [show t.Desired.flatMap (visG t.Desired) = wantL t.Desired from rfl, show t.Reported.flatMap (visG t.Reported) = wantL t.Reported from rfl]
  rw [OwedOf_l1 t hD _ _ (by omega) (by omega) (fun p hp => by
    obtain ⟨c, hc, rfl, _⟩ := vis_mem hp
    exact (hR.2 c hc).1), OwedOf_l4 _ _ (by omega)]
  unfold Q_OwedOf_k5
  have hf := flatN2 (wantL t.Desired) (wantL t.Reported)
  have hn := nms_len [wantL t.Desired, wantL t.Reported]
  rw [namesOf_eq [wantL t.Desired, wantL t.Reported] (by simp) (by omega)]
  simp only [Option.bind_some]
  rw [OwedOf_l5 _ (by omega) _ _ (by omega)]
  unfold owL
  congr 1
  congr 1
  funext n
  exact ow_of t.Desired _ _ (vis_SN _ _ s1) (vis_SN _ _ s2) (fun p hp => by
    obtain ⟨c, _, rfl, hk⟩ := vis_mem hp
    exact hk) n
end Go.Beacon

/- Twins: the generator, and how much is owed at most. No program in sight. -/
set_option linter.unusedVariables false
set_option linter.unusedSimpArgs false
namespace Go.Beacon
open Go Go.Eng

theorem nodup_len : ∀ {l L : List Str}, l.Nodup → (∀ x ∈ l, x ∈ L) → l.length ≤ L.length
  | [], L, _, _ => Nat.zero_le _
  | x :: l, L, h, hs => by
    have h1 := List.nodup_cons.1 h
    have hx := hs x (by simp)
    have ih := nodup_len (l := l) (L := L.erase x) h1.2 (fun y hy => by
      have hne : y ≠ x := fun e => h1.1 (e ▸ hy)
      exact (List.mem_erase_of_ne hne).2 (hs y (List.mem_cons_of_mem _ hy)))
    rw [List.length_erase_of_mem hx] at ih
    have : 0 < L.length := List.length_pos_of_mem hx
    simp only [List.length_cons]
    omega
/-- The names of right cells. -/
def poolN : List Str := [([97] : Str), ([97] : Str), ([97, 46, 120] : Str), ([97, 46, 121] : Str), ([97, 46, 120, 46, 112] : Str), ([98] : Str), ([98, 46, 122] : Str), ([97, 98] : Str)]
def poolM : List Str := [([97] : Str), ([97, 46, 120] : Str), ([97, 46, 121] : Str), ([97, 46, 120, 46, 112] : Str), ([98] : Str), ([98, 46, 122] : Str), ([97, 98] : Str)]
theorem pool_sub {x : Str} (h : x ∈ poolN) : x ∈ poolM := by
  unfold poolN at h
  rcases List.mem_cons.1 h with e | e
  · rw [e]; simp [poolM]
  · exact e
def CN (k : Nat) (l : List Cell) : Prop := CG k l ∧ ∀ c ∈ l, cN c ∈ poolN
def CX (k : Nat) (l : List Cell) : Prop := CG k l ∧ ∃ t, ∀ c ∈ l, cN c ∈ poolN ∨ cN c = t
theorem CN.snoc {k : Nat} {l : List Cell} (h : CN k l) {c : Cell} (hc : (cN c).length ≤ 1000 ∧ c.Prop_.Value.Words.length ≤ 1001 ∧ (-1099511627777 ≤ c.Stamp.At ∧ c.Stamp.At ≤ 1099511627777) ∧ (-1099511627777 ≤ c.Stamp.No ∧ c.Stamp.No ≤ 1099511627777)) (hp : cN c ∈ poolN) : CN (k + 1) (l ++ [c]) :=
  ⟨h.1.snoc hc, fun x hx => by
    rcases List.mem_append.1 hx with e | e
    · exact h.2 x e
    · rw [List.mem_singleton] at e; subst e; exact hp⟩
theorem RightCells_n {s : Stm} {K : Int} (hs : SOk s K) (hK : 50 ≤ K) : Gen (Stream_RightCells s) (K - 50) (CN 6) := by
  refine Gen.of ?_
  unfold Stream_RightCells
  refine Ok.gen (Range_k hs (by omega) (by omega) (by omega) (by omega)) (fun v s1 hv q1 => ?_)
  dsimp only
  unfold Stream_RightCells_l1
  refine Ok.iter (fun x : List Int × Int × List Cell × Int => (v - x.2.2.2).toNat) (fun x : List Int × Int × List Cell × Int => 0 ≤ x.2.2.2 ∧ x.2.2.2 ≤ v ∧ SOk ⟨x.1, x.2.1⟩ (K - 50 + 7 * (v - x.2.2.2)) ∧ CN x.2.2.2.toNat x.2.2.1) ?_ _ ⟨by simp, hv.1, q1.less (by simp only; omega), ⟨by simp, by simp⟩, by simp⟩
  rintro ⟨L, a, l, n⟩ ⟨g0, g1, g2, g3⟩
  simp only at g0 g1 g2 g3 ⊢
  have hl := g3.1.1
  unfold Stream_RightCells_b1
  dsimp only
  split
  · rename_i hn
    refine Ok.gen (Some_k g2 (by omega) (by simp) (by simp)) (fun t s2 ht q2 => ?_)
    have ht' : t.length ≤ 1000 := mem_len (by decide) ht
    refine Ok.gen (RightValue_k q2 (by omega)) (fun w s3 hw q3 => ?_)
    refine Ok.gen (RightStamp_k q3 (by omega)) (fun z s4 hz q4 => ?_)
    refine Ok.gen (Flip_k q4 (by omega) (by omega) (by omega)) (fun c s5 _ q5 => ?_)
    dsimp only
    have j1 : ∀ (k : Int) (b : Bool) (m : Int) (q : Str), q.length ≤ 1001 → Ok (Stream_RightCells_j1 l n (t, s2) (z, s4) (c, s5) k b m q) (Stp (fun x : List Int × Int × List Cell × Int => (v - x.2.2.2).toNat) (fun x : List Int × Int × List Cell × Int => 0 ≤ x.2.2.2 ∧ x.2.2.2 ≤ v ∧ SOk ⟨x.1, x.2.1⟩ (K - 50 + 7 * (v - x.2.2.2)) ∧ CN x.2.2.2.toNat x.2.2.1) (fun r => CN 6 r.1 ∧ SOk r.2 (K - 50)) (L, a, l, n)) := by
      intro k b m q hq
      unfold Stream_RightCells_j1
      refine Ok.app (by simp; omega) ?_
      refine Ok.ret ?_
      rw [w64_in (by omega) (by omega)]
      refine ⟨⟨by simp only; omega, by simp only; omega, q5.less (by simp only; omega), ?_⟩, by simp only; omega⟩
      simp only
      rw [show (n + 1).toNat = n.toNat + 1 by omega]
      exact g3.snoc ⟨ht', hq, ⟨by simp only; omega, by simp only; omega⟩, ⟨by simp only; omega, by simp only; omega⟩⟩ ht
    split
    · exact j1 _ _ _ _ (by simp)
    · exact j1 _ _ _ _ hw
  · refine Ok.inr ?_
    unfold Stream_RightCells_k2
    obtain ⟨Z, z1, z2, _⟩ := cstable_len (fun y0 y1 => some (cellOrder y0 y1)) l (by omega) (fun x _ y _ => rfl)
    rw [z1]
    simp only [Option.bind_some]
    rw [ccompactF_eq (fun y0 y1 => some (Stream_RightCells_1x y0 y1)) Stream_RightCells_1x Z (by have := z2.length_eq; omega) (fun x _ y _ => rfl)]
    refine Ok.ret ⟨?_, g2.less (by omega)⟩
    have h6 : CG 6 l := ⟨by omega, g3.1.2⟩
    exact ⟨(h6.perm z2).sub (dd_sub _ _), fun c hc => g3.2 c (z2.mem_iff.1 ((dd_sub _ _).subset hc))⟩
theorem Cells_n {s : Stm} {K : Int} (hs : SOk s K) (hK : 80 ≤ K) : Gen (Stream_Cells s) (K - 80) (CX 7) := by
  refine Gen.of ?_
  unfold Stream_Cells Stream_Cells_j2 Stream_Cells_j1
  refine Ok.gen (RightCells_n hs (by omega)) (fun l s1 hl q1 => ?_)
  refine Ok.gen (Flip_k q1 (by omega) (by omega) (by omega)) (fun c s2 _ q2 => ?_)
  dsimp only
  split
  · refine Ok.gen (PropName_k q2 (by omega)) (fun t s3 ht q3 => ?_)
    refine Ok.gen (Value_k q3 (by omega)) (fun w s4 hw q4 => ?_)
    refine Ok.gen (Stamp_k q4 (by omega)) (fun z s5 hz q5 => ?_)
    dsimp only
    have hs7 : CG 7 (l ++ [(⟨⟨t, w⟩, z⟩ : Cell)]) := hl.1.snoc ⟨ht, hw, hz⟩
    have hn7 : ∀ c ∈ l ++ [(⟨⟨t, w⟩, z⟩ : Cell)], cN c ∈ poolN ∨ cN c = t := fun c hc => by
      rcases List.mem_append.1 hc with e | e
      · exact .inl (hl.2 c e)
      · rw [List.mem_singleton] at e; subst e; exact .inr rfl
    refine Ok.app (by have := hl.1.1; simp; omega) ?_
    refine Ok.gen (Flip_k q5 (by omega) (by omega) (by omega)) (fun d s6 _ q6 => ?_)
    dsimp only
    split
    · obtain ⟨Z, z1, z2, _⟩ := cstable_len (fun y0 y1 => some (cellOrder y0 y1)) (l ++ [(⟨⟨t, w⟩, z⟩ : Cell)]) (by have := hs7.1; omega) (fun x _ y _ => rfl)
      rw [z1]
      exact Ok.ret ⟨⟨hs7.perm z2, t, fun c hc => hn7 c (z2.mem_iff.1 hc)⟩, q6.less (by omega)⟩
    · exact Ok.ret ⟨⟨hs7, t, hn7⟩, q6.less (by omega)⟩
  · exact Ok.ret ⟨⟨⟨by have := hl.1.1; simp only; omega, hl.1.2⟩, [], fun c hc => .inl (hl.2 c hc)⟩, q2.less (by omega)⟩
/-! how much is owed -/
theorem SS.nodup {l : List Str} (h : SS l) : l.Nodup := List.Pairwise.imp (fun {a b} h e => by subst e; rw [cmpB_self] at h; omega) h
theorem owL_cf (t : TwinS) (hD : CX 7 t.Desired) (hR : CX 7 t.Reported) : CF (owL t) := by
  obtain ⟨d1, a, d2⟩ := hD
  obtain ⟨e1, b, e2⟩ := hR
  have hmem : ∀ n ∈ nmsL [wantL t.Desired, wantL t.Reported], (n ∈ poolM ∨ n = a ∨ n = b) ∧ n.length ≤ 1000 := by
    intro n hn
    obtain ⟨l, hl, p, hp, rfl⟩ := (nms_mem _ _).1 hn
    rcases List.mem_cons.1 hl with e | e
    · subst e
      obtain ⟨c, hc, rfl, _⟩ := vis_mem hp
      refine ⟨?_, (d1.2 c hc).1⟩
      rcases d2 c hc with h | h
      · exact .inl (pool_sub h)
      · exact .inr (.inl h)
    · rw [List.mem_singleton] at e; subst e
      obtain ⟨c, hc, rfl, _⟩ := vis_mem hp
      refine ⟨?_, (e1.2 c hc).1⟩
      rcases e2 c hc with h | h
      · exact .inl (pool_sub h)
      · exact .inr (.inr h)
  have hlen : (nmsL [wantL t.Desired, wantL t.Reported]).length ≤ (poolM ++ [a, b]).length := nodup_len (nms_SS _).nodup (fun n hn => by
    rcases (hmem n hn).1 with h | h | h
    · exact List.mem_append_left _ h
    · rw [h]; simp
    · rw [h]; simp)
  have hfl := flat_len (owG (t.Desired.flatMap (goneG t.Desired)) (wantL t.Desired) (wantL t.Reported)) (owG_len _ _ _) (nmsL [wantL t.Desired, wantL t.Reported])
  have h9 : (poolM ++ [a, b]).length = 9 := rfl
  refine ⟨by unfold owL; omega, fun x hx => ?_⟩
  unfold owL at hx
  obtain ⟨n, hn, hxn⟩ := List.mem_flatMap.1 hx
  unfold owG chF at hxn
  split at hxn
  · cases hxn
  · split at hxn
    · rw [List.mem_singleton] at hxn
      subst hxn
      refine ⟨(hmem n hn).2, valL_words _ n 1001 (fun p hp => ?_), valL_words _ n 1001 (fun p hp => ?_)⟩
      · obtain ⟨c, hc, rfl, _⟩ := vis_mem hp
        exact (e1.2 c hc).2.1
      · obtain ⟨c, hc, rfl, _⟩ := vis_mem hp
        exact (d1.2 c hc).2.1
    · cases hxn
end Go.Beacon

/- TwinsSettle: taking, and the law. No program in sight. -/
set_option linter.unusedVariables false
set_option linter.unusedSimpArgs false
namespace Go.Beacon
open Go Go.Eng

def tkL (c : List Change) (st : Stamp) : List Cell := c.flatMap fun x => [(⟨⟨x.Name, x.To⟩, st⟩ : Cell)]
theorem tkL_map (c : List Change) (st : Stamp) : tkL c st = c.map fun x => (⟨⟨x.Name, x.To⟩, st⟩ : Cell) := by
  unfold tkL
  induction c with
  | nil => rfl
  | cons x c ih => rw [List.flatMap_cons, ih]; rfl
theorem tkL_SId {c : List Change} (st : Stamp) (h : SC c) : SId cN (tkL c st) := by
  rw [tkL_map]
  unfold SId
  rw [List.pairwise_map]
  exact h
theorem tkL_CL {c : List Change} {st : Stamp} (h : CF c) (h1 : -1099511627777 ≤ st.At ∧ st.At ≤ 1099511627777) (h2 : -1099511627777 ≤ st.No ∧ st.No ≤ 1099511627777) : CL (tkL c st) := by
  have hl := h.1
  refine ⟨by rw [tkL_map, List.length_map]; omega, fun x hx => ?_⟩
  rw [tkL_map] at hx
  obtain ⟨y, hy, rfl⟩ := List.mem_map.1 hx
  have := h.2 y hy
  exact ⟨by unfold cN; simp only; omega, by simp only; omega, h1, h2⟩
def tkR (t : TwinS) (c : List Change) (st : Stamp) : TwinS × Int :=
  if (t.Reported.any fun x => decide (0 ≤ stO x.Stamp st)) = true then (⟨[], []⟩, 7)
  else if (mgR (jn t.Reported (tkL c st))).2 ≠ 0 then (⟨[], []⟩, (mgR (jn t.Reported (tkL c st))).2) else (⟨t.Desired, (mgR (jn t.Reported (tkL c st))).1⟩, 0)
theorem cloneC_eq (a : List Cell) (h : a.length ≤ 100000) : slices_Clone_Cell_Cell a = some a := by
  unfold slices_Clone_Cell_Cell
  rw [app_le (by simp; omega)]; rfl
theorem Take_l1 (t : TwinS) (hD : t.Desired.length ≤ 1000) (c : List Change) (st : Stamp) (hl : t.Reported.length + c.length ≤ 1000) : twin_Take_l1 t c st [] 0 = some (if (mgR (jn t.Reported (tkL c st))).2 ≠ 0 then (⟨[], []⟩, (mgR (jn t.Reported (tkL c st))).2) else (⟨t.Desired, (mgR (jn t.Reported (tkL c st))).1⟩, 0)) := by
  unfold twin_Take_l1
  refine iter_fl c (fun x => [(⟨⟨x.Name, x.To⟩, st⟩ : Cell)]) (fun x => by simp) _ _ [] (fun X i x h0 h1 hx hm hX => ?_) (fun i hi => ?_)
  · simp only [List.length_nil] at hX
    simp only
    rw [twin_Take_b1, if_pos h1, hx]
    simp only [Option.bind_some]
    rw [app_le (by simp; omega), w64_in (by omega) (by omega)]; rfl
  · simp only
    rw [twin_Take_b1, if_neg (by omega)]
    unfold twin_Take_k1
    rw [show ([] : List Cell) ++ c.flatMap (fun x => [(⟨⟨x.Name, x.To⟩, st⟩ : Cell)]) = tkL c st from rfl, merged_eq _ _ (by rw [tkL_map, List.length_map]; omega)]
    simp only [Option.bind_some]
    split
    · rfl
    · rw [cloneC_eq _ (by omega)]; rfl
theorem TakeOf_l1 (t : TwinS) (hD : t.Desired.length ≤ 1000) (hR : CL t.Reported) (c : List Change) (st : Stamp) (hc : CL (tkL c st)) (hl : t.Reported.length + c.length < 20) (sR : SId cN t.Reported) (sc : SC c) : Q_TakeOf_l1 t c st [] 0 = some (if (mgR (jn t.Reported (tkL c st))).2 ≠ 0 then (⟨[], []⟩, (mgR (jn t.Reported (tkL c st))).2) else (⟨t.Desired, (mgR (jn t.Reported (tkL c st))).1⟩, 0)) := by
  unfold Q_TakeOf_l1
  refine iter_fl c (fun x => [(⟨⟨x.Name, x.To⟩, st⟩ : Cell)]) (fun x => by simp) _ _ [] (fun X i x h0 h1 hx hm hX => ?_) (fun i hi => ?_)
  · simp only [List.length_nil] at hX
    simp only
    rw [Q_TakeOf_b1, if_pos h1, hx]
    simp only [Option.bind_some]
    rw [app_le (by simp; omega), w64_in (by omega) (by omega)]; rfl
  · simp only
    rw [Q_TakeOf_b1, if_neg (by omega)]
    unfold Q_TakeOf_k1
    rw [show ([] : List Cell) ++ c.flatMap (fun x => [(⟨⟨x.Name, x.To⟩, st⟩ : Cell)]) = tkL c st from rfl, MergeOf_eq _ _ hR hc (by rw [tkL_map, List.length_map]; omega) sR (tkL_SId st sc)]
    simp only [Option.bind_some]
    split
    · rfl
    · rw [cloneC_eq _ (by omega)]; rfl
theorem Take_eq (t : TwinS) (hD : t.Desired.length ≤ 1000) (c : List Change) (st : Stamp) (hl : t.Reported.length + c.length ≤ 1000) {f r3 r4 : Int} (h1 : twin_twinFault t = some f) (h2 : twin_CheckChanges c = some r3) (h3 : twin_stampFault st = some r4) : twin_Take t c st = some (if orL [f, r3, r4] ≠ 0 then (⟨[], []⟩, orL [f, r3, r4]) else tkR t c st) := by
  unfold twin_Take
  rw [h1, h2, h3]
  simp only [Option.bind_some]
  rw [First_eq _ (by simp)]
  simp only [Option.bind_some]
  by_cases h : orL [f, r3, r4] ≠ 0
  · rw [if_pos h, if_pos h]
  · rw [if_neg h, if_neg h, show slices_ContainsFunc_Cell_Cell t.Reported (fun y0 => twin_Take_1x y0 st) = some (t.Reported.any fun x => decide (0 ≤ stO x.Stamp st)) from gContainsFunc_eq t.Reported _ _ (fun x _ => by unfold twin_Take_1x; rw [byStamp_eq]; rfl) (by omega)]
    simp only [Option.bind_some]
    unfold tkR
    split
    · rfl
    · rw [Take_l1 t hD c st hl]
theorem TakeOf_eq (t : TwinS) (hD : t.Desired.length ≤ 1000) (hR : CL t.Reported) (c : List Change) (st : Stamp) (b1 : -1099511627777 ≤ st.At ∧ st.At ≤ 1099511627777) (b2 : -1099511627777 ≤ st.No ∧ st.No ≤ 1099511627777) (hc : CL (tkL c st)) (hl : t.Reported.length + c.length < 20) (sR : SId cN t.Reported) (sc : SC c) : Q_TakeOf t c st = some (tkR t c st) := by
  unfold Q_TakeOf
  have hrl := hR.1
  rw [show slices_ContainsFunc_Cell_Cell t.Reported (fun y0 => some (Q_TakeOf_1x y0 st)) = some (t.Reported.any fun x => decide (0 ≤ stO x.Stamp st)) from gContainsFunc_eq t.Reported _ _ (fun x hx => by
    unfold Q_TakeOf_1x
    rw [StampOrder_eq _ _ (hR.2 x hx).2.2.1 b1 (hR.2 x hx).2.2.2 b2]) (by omega)]
  simp only [Option.bind_some]
  unfold tkR
  split
  · rfl
  · rw [TakeOf_l1 t hD hR c st hc hl sR sc]
theorem ceq_selfT (l : List Cell) (h : l.length ≤ 100000) : slices_Equal_Cell_Cell l l = some true := by
  rw [show slices_Equal_Cell_Cell l l = some (decide (l = l)) from gEqual_eq _ _ (by omega)]; simp
theorem j5_true (x : TwinS × Int) (h1 : x.1.Desired.length ≤ 100000) (h2 : x.1.Reported.length ≤ 100000) : L_TwinsSettle_j5 x x.2 x.1.Desired x.1.Reported = some true := by
  unfold L_TwinsSettle_j5
  rw [if_pos rfl]
  unfold Q_SameTwin
  simp only
  rw [ceq_selfT _ h1]
  simp only [Option.bind_some, if_true]
  rw [ceq_selfT _ h2]
  simp only [Option.bind_some, Q_SameTwin_j1, if_true]
  rw [twinned_eq]
  rfl
theorem tkR_len (t : TwinS) (c : List Change) (st : Stamp) (hD : t.Desired.length ≤ 1000) (hl : t.Reported.length + c.length < 20) (sR : SId cN t.Reported) (sc : SC c) : (tkR t c st).1.Desired.length ≤ 100000 ∧ (tkR t c st).1.Reported.length ≤ 100000 := by
  have hm : (mgR (jn t.Reported (tkL c st))).1.length ≤ 100000 := by
    rcases jn_spec _ _ _ (Nat.le_refl _) sR (tkL_SId st sc) with ⟨j1, _⟩ | ⟨r, j1, _, _, _, j5⟩
    · rw [j1]; simp [mgR]
    · rw [j1]
      rw [tkL_map, List.length_map] at j5
      unfold mgR
      simp only
      split
      · simp
      · simp only; omega
  unfold tkR
  repeat' split
  all_goals first | exact ⟨Nat.le_trans hD (by omega), hm⟩ | exact ⟨by simp, by simp⟩
theorem j4_true (t : TwinS) (s : Stm) (hD : CX 7 t.Desired) (hR : CX 7 t.Reported) (A : Int) (B : Str) (N : Int) (b1 : -1099511627777 ≤ A ∧ A ≤ 1099511627777) (b2 : -1099511627777 ≤ N ∧ N ≤ 1099511627777) (c : List Change) (hc : CF c) {r1 r2 : Int} (h1 : twin_CheckCells t.Desired = some r1) (h2 : twin_CheckCells t.Reported = some r2) (s2 : r2 = 0 → SId cN t.Reported) : L_TwinsSettle_j4 (t, s) A B N (orL [r1, r2]) c = some true := by
  have d1 := hD.1.1
  have e1 := hR.1.1
  have cl := hc.1
  obtain ⟨r3, c1, c2, c3⟩ := CheckChanges_eq c hc.cb
  obtain ⟨r4, f1, f2⟩ := stampF_eq ⟨A, B, N⟩
  have hcl := tkL_CL (st := ⟨A, B, N⟩) hc b1 b2
  unfold L_TwinsSettle_j4
  simp only
  rw [Take_eq t (by omega) c ⟨A, B, N⟩ (by omega) (twinFault_eq t h1 h2) c1 f1, c2, f2]
  simp only [Option.bind_some]
  rw [show L_errs [orL [r1, r2], r3, r4] = some (orL [orL [r1, r2], r3, r4]) from gOr_eq _ (by simp)]
  simp only [Option.bind_some]
  by_cases h : orL [orL [r1, r2], r3, r4] ≠ 0
  · rw [if_neg h, if_pos h]
    exact j5_true ((⟨[], []⟩ : TwinS), orL [orL [r1, r2], r3, r4]) (by simp) (by simp)
  · have h0 : orL [orL [r1, r2], r3, r4] = 0 := Classical.not_not.1 h
    have hz : orL [r1, r2] = 0 ∧ r3 = 0 := by
      rw [orL3, orL2] at h0
      by_cases q1 : orL [r1, r2] = 0
      · rw [q1] at h0
        by_cases q2 : r3 = 0
        · exact ⟨q1, q2⟩
        · simp [q2] at h0
      · simp [q1] at h0
    have hz2 := orL2_zero (x := r1) (y := r2) hz.1
    have sR := s2 hz2.2
    have sc := (c3 hz.2).1
    rw [if_pos h0, if_neg h, TakeOf_eq t (by omega) (hR.1.cl (by omega)) c ⟨A, B, N⟩ b1 b2 hcl (by omega) sR sc]
    simp only [Option.bind_some]
    have hl := tkR_len t c ⟨A, B, N⟩ (by omega) (by omega) sR sc
    exact j5_true (tkR t c ⟨A, B, N⟩) hl.1 hl.2
theorem eqCT_self (l : List Change) (h : l.length ≤ 100000) : slices_Equal_Change_Change l l = some true := by
  rw [show slices_Equal_Change_Change l l = some (decide (l = l)) from gEqual_eq _ _ (by omega)]; simp
theorem j1_true (t : TwinS) (s : Stm) (hD : CX 7 t.Desired) (hR : CX 7 t.Reported) (L : List Int) (a K : Int) (hs : SOk ⟨L, a⟩ K) (hK : 100 ≤ K) (A : Int) (B : Str) (N : Int) (b1 : -1099511627777 ≤ A ∧ A ≤ 1099511627777) (b2 : -1099511627777 ≤ N ∧ N ≤ 1099511627777) : Ok (L_TwinsSettle_j1 (t, s) L a A B N) (fun r => r = true) := by
  have cD := hD.1.cl (by omega)
  have cR := hR.1.cl (by omega)
  obtain ⟨r1, h1, g1, q1⟩ := CheckCells_eq t.Desired cD
  obtain ⟨r2, h2, g2, q2⟩ := CheckCells_eq t.Reported cR
  have s1 : r1 = 0 → SId cN t.Desired := fun h => (q1 h).1
  have s2 : r2 = 0 → SId cN t.Reported := fun h => (q2 h).1
  have hcf := owL_cf t hD hR
  have hol := hcf.1
  have j3 : ∀ (x : List Change × Int), CF x.1 → Ok (L_TwinsSettle_j3 (t, s) L a A B N x (orL [r1, r2]) false) (fun r => r = true) := by
    intro x hx
    unfold L_TwinsSettle_j3
    rw [if_neg (by simp)]
    refine Ok.gen (Flip_k hs (by omega) (by omega) (by omega)) (fun v s3 _ q3 => ?_)
    dsimp only
    split
    · refine Ok.gen (Changes_k q3 (by omega) (l := []) ⟨by simp, by simp⟩) (fun c s4 hc q4 => ?_)
      dsimp only
      exact ⟨true, j4_true t s hD hR A B N b1 b2 c hc h1 h2 s2, rfl⟩
    · exact ⟨true, j4_true t s hD hR A B N b1 b2 x.1 hx h1 h2 s2, rfl⟩
  unfold L_TwinsSettle_j1
  simp only
  rw [QTwinFault_eq t g1 g2]
  unfold twin_Settled twin_Settled_j1
  rw [Owed_eq t cD cR h1 h2 s1 s2]
  simp only [Option.bind_some]
  by_cases h : orL [r1, r2] ≠ 0
  · rw [if_pos h, if_neg h]
    unfold L_TwinsSettle_j2
    simp only
    rw [if_neg (by simp), if_neg (by simp), eqCT_self [] (by simp)]
    simp only [Option.bind_some]
    have e : ((!true) || (if orL [r1, r2] = 0 then (decide (orL [r1, r2] = 0) && decide ((([] : List Change).length : Int) = 0)) != decide ((([] : List Change).length : Int) = 0) else (decide (orL [r1, r2] = 0) && decide ((([] : List Change).length : Int) = 0)) != false)) = false := by
      rw [if_neg h, decide_eq_false h]; rfl
    rw [e]
    exact j3 ([], orL [r1, r2]) ⟨by simp, by simp⟩
  · have h0 : orL [r1, r2] = 0 := Classical.not_not.1 h
    have hz := orL2_zero (x := r1) (y := r2) h0
    rw [if_neg h, if_pos h0, OwedOf_eq t cD cR (s1 hz.1) (s2 hz.2)]
    simp only [Option.bind_some]
    unfold L_TwinsSettle_j2
    simp only
    rw [if_neg (by rw [h0]; simp), if_neg (by rw [h0]; simp), eqCT_self _ (by omega)]
    simp only [Option.bind_some]
    exact (show ∀ cc : Bool, cc = false → Ok (L_TwinsSettle_j3 (t, s) L a A B N (owL t, 0) (orL [r1, r2]) cc) (fun r => r = true) from fun cc hcc => by rw [hcc]; exact j3 (owL t, 0) hcf) _ (by rw [if_pos h0]; simp)
theorem TwinsSettle_plain (L : List Int) : L_TwinsSettle L = some true := by
  have key : Ok (L_TwinsSettle L) (fun r => r = true) := by
    unfold L_TwinsSettle Stream_Twin
    simp only [Option.bind_assoc]
    refine Ok.gen (Cells_n (K := 1000) ⟨by simp, by simp⟩ (by omega)) (fun a s1 ha q1 => ?_)
    simp only [Option.bind_assoc]
    refine Ok.gen (Cells_n q1 (by omega)) (fun b s2 hb q2 => ?_)
    simp only [Option.bind_some]
    refine Ok.gen (Pick_k q2 (by omega) (by simp) (by simp)) (fun x s3 hx q3 => ?_)
    refine Ok.gen (Some_k q3 (by omega) (by simp) (by simp)) (fun y s4 hy q4 => ?_)
    refine Ok.gen (Pick_k q4 (by omega) (by simp) (by simp)) (fun z s5 hz q5 => ?_)
    refine Ok.gen (Flip_k q5 (by omega) (by omega) (by omega)) (fun c s6 _ q6 => ?_)
    dsimp only
    split
    · refine Ok.gen (Stamp_k q6 (by omega)) (fun t s7 ht q7 => ?_)
      exact j1_true ⟨a, b⟩ s2 ha hb s7.L s7.at_ _ q7 (by omega) _ _ _ ht.1 ht.2
    · have hx' : x = 9 ∨ x = 10 := by simp at hx; omega
      have hz' : z = 0 ∨ z = 1 := by simp at hz; omega
      exact j1_true ⟨a, b⟩ s2 ha hb s6.L s6.at_ _ q6 (by omega) _ _ _ ⟨by omega, by omega⟩ ⟨by omega, by omega⟩
  obtain ⟨r, h1, rfl⟩ := key
  exact h1
end Go.Beacon

